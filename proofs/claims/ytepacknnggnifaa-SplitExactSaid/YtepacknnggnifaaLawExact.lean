/- SplitExact: the parts are the amount, and each is the exact quotient rounded down or up. No condition. -/
import Derived.Test.YtepacknnggnifaaArg
import Derived.Test.YtepacknnggnifaaPC
namespace Go.Proofs.Ytepacknnggnifaa.lawExact
open Go.ChangeShapes Go.WideShapes Go.ChangeAt Go.RowKit Go.Deep Go.Joins
set_option linter.unusedVariables false

/-! skiarea/skiarealaw34.SplitExact -/
def lawIr : IFn := ⟨189, [.tmp 4],
  (.seq (.ops [
    ⟨(some 4), .mov, [.const (.bool false)], none⟩] false)
  (.seq (.seq (.ops [
    ⟨(some 14), .call 10, [], none⟩,
    ⟨(some 15), .not, [.tmp 14], none⟩] false)
  (.cond (.tmp 15)
    (.seq (.ops [
      ⟨(some 4), .mov, [.const (.bool false)], none⟩] false)
    .ret)
    .skip))
  (.seq (.seq (.ops [
    ⟨(some 16), .mov, [.tmp 1], none⟩,
    ⟨(some 17), .len, [.tmp 16], none⟩,
    ⟨(some 18), .cmp .gtr, [.tmp 17, .const (.int .i64 100)], none⟩] false)
  (.cond (.tmp 18)
    (.seq (.ops [
      ⟨(some 4), .mov, [.const (.bool true)], none⟩] false)
    .ret)
    .skip))
  (.seq (.ops [
    ⟨(some 20), .mov, [.tmp 0], none⟩,
    ⟨(some 21), .mov, [.tmp 1], none⟩,
    ⟨(some 22), .call 11, [.tmp 20, .tmp 21], none⟩,
    ⟨(some 19), .mov, [.tmp 22], none⟩,
    ⟨(some 23), .extract 0, [.tmp 19], none⟩,
    ⟨(some 24), .extract 1, [.tmp 19], none⟩,
    ⟨(some 5), .mov, [.tmp 23], none⟩,
    ⟨(some 6), .mov, [.tmp 24], none⟩] false)
  (.seq (.seq (.ops [
    ⟨(some 25), .mov, [.tmp 6], none⟩,
    ⟨(some 26), .cmp .neq, [.tmp 25, .const (.int .i64 0)], none⟩] false)
  (.cond (.tmp 26)
    (.seq (.ops [
      ⟨(some 27), .mov, [.tmp 5], none⟩,
      ⟨(some 28), .len, [.tmp 27], none⟩,
      ⟨(some 29), .cmp .eql, [.tmp 28, .const (.int .i64 0)], none⟩,
      ⟨(some 4), .mov, [.tmp 29], none⟩] false)
    .ret)
    .skip))
  (.seq (.seq (.ops [
    ⟨(some 30), .mov, [.tmp 5], none⟩,
    ⟨(some 31), .len, [.tmp 30], none⟩,
    ⟨(some 32), .mov, [.tmp 1], none⟩,
    ⟨(some 33), .len, [.tmp 32], none⟩,
    ⟨(some 34), .cmp .neq, [.tmp 31, .tmp 33], none⟩,
    ⟨(some 35), .mov, [.tmp 34], none⟩,
    ⟨(some 36), .mov, [.tmp 0], (some (35, false))⟩,
    ⟨(some 37), .mov, [.tmp 1], (some (35, false))⟩,
    ⟨(some 38), .mov, [.tmp 5], (some (35, false))⟩,
    ⟨(some 39), .call 16, [.tmp 36, .tmp 37, .tmp 38], (some (35, false))⟩,
    ⟨(some 40), .not, [.tmp 39], (some (35, false))⟩,
    ⟨(some 41), .pick, [.tmp 35, .const (.bool true), .tmp 40], none⟩] false)
  (.cond (.tmp 41)
    (.seq (.ops [
      ⟨(some 4), .mov, [.const (.bool false)], none⟩] false)
    .ret)
    .skip))
  (.seq (.ops [
    ⟨(some 7), .mov, [.const (.int .i64 0)], none⟩,
    ⟨(some 8), .mov, [.const (.int .i64 0)], none⟩] false)
  (.seq (.seq (.ops [
    ⟨(some 9), .mov, [.const (.int .i64 0)], none⟩] false)
  (.block 0
    (.loop
      (.seq (.seq (.ops [
        ⟨(some 42), .mov, [.tmp 9], none⟩,
        ⟨(some 43), .mov, [.tmp 1], none⟩,
        ⟨(some 44), .len, [.tmp 43], none⟩,
        ⟨(some 45), .cmp .lss, [.tmp 42, .tmp 44], none⟩] false)
      (.cond (.tmp 45)
        .skip
        (.exit 0)))
      (.seq (.block 1
        (.seq (.seq (.ops [
          ⟨(some 48), .mov, [.tmp 1], none⟩,
          ⟨(some 49), .mov, [.tmp 9], none⟩,
          ⟨(some 50), .idx 1, [.tmp 48, .tmp 49], none⟩,
          ⟨(some 51), .load 1 false, [.tmp 50], none⟩,
          ⟨(some 52), .cmp .lss, [.tmp 51, .const (.int .i64 0)], none⟩,
          ⟨(some 53), .mov, [.tmp 52], none⟩,
          ⟨(some 54), .mov, [.tmp 1], (some (53, false))⟩,
          ⟨(some 55), .mov, [.tmp 9], (some (53, false))⟩,
          ⟨(some 56), .idx 1, [.tmp 54, .tmp 55], (some (53, false))⟩,
          ⟨(some 57), .load 1 false, [.tmp 56], (some (53, false))⟩,
          ⟨(some 58), .cmp .gtr, [.tmp 57, .const (.int .i64 1000000000)], (some (53, false))⟩,
          ⟨(some 59), .pick, [.tmp 53, .const (.bool true), .tmp 58], none⟩] false)
        (.cond (.tmp 59)
          (.seq (.ops [
            ⟨(some 4), .mov, [.const (.bool false)], none⟩] false)
          .ret)
          .skip))
        (.ops [
          ⟨(some 60), .mov, [.tmp 8], none⟩,
          ⟨(some 61), .mov, [.tmp 1], none⟩,
          ⟨(some 62), .mov, [.tmp 9], none⟩,
          ⟨(some 63), .idx 1, [.tmp 61, .tmp 62], none⟩,
          ⟨(some 64), .load 1 false, [.tmp 63], none⟩,
          ⟨(some 65), .bin .add .i64 false, [.tmp 60, .tmp 64], none⟩,
          ⟨(some 8), .mov, [.tmp 65], none⟩] false)))
      (.ops [
        ⟨(some 46), .mov, [.tmp 9], none⟩,
        ⟨(some 47), .bin .add .i64 false, [.tmp 46, .const (.int .i64 1)], none⟩,
        ⟨(some 9), .mov, [.tmp 47], none⟩] false))))))
  (.seq (.seq (.ops [
    ⟨(some 66), .mov, [.tmp 8], none⟩,
    ⟨(some 67), .cmp .eql, [.tmp 66, .const (.int .i64 0)], none⟩,
    ⟨(some 68), .mov, [.tmp 67], none⟩,
    ⟨(some 69), .mov, [.tmp 0], (some (68, false))⟩,
    ⟨(some 70), .cmp .lss, [.tmp 69, .const (.int .i64 0)], (some (68, false))⟩,
    ⟨(some 71), .pick, [.tmp 68, .const (.bool true), .tmp 70], none⟩,
    ⟨(some 72), .mov, [.tmp 71], none⟩,
    ⟨(some 73), .mov, [.tmp 0], (some (72, false))⟩,
    ⟨(some 74), .cmp .gtr, [.tmp 73, .const (.int .i64 1099511627776)], (some (72, false))⟩,
    ⟨(some 75), .pick, [.tmp 72, .const (.bool true), .tmp 74], none⟩] false)
  (.cond (.tmp 75)
    (.seq (.ops [
      ⟨(some 4), .mov, [.const (.bool false)], none⟩] false)
    .ret)
    .skip))
  (.seq (.seq (.ops [
    ⟨(some 10), .mov, [.const (.int .i64 0)], none⟩] false)
  (.block 2
    (.loop
      (.seq (.seq (.ops [
        ⟨(some 76), .mov, [.tmp 10], none⟩,
        ⟨(some 77), .mov, [.tmp 5], none⟩,
        ⟨(some 78), .len, [.tmp 77], none⟩,
        ⟨(some 79), .cmp .lss, [.tmp 76, .tmp 78], none⟩] false)
      (.cond (.tmp 79)
        .skip
        (.exit 2)))
      (.seq (.block 3
        (.seq (.ops [
          ⟨(some 83), .mov, [.tmp 0], none⟩,
          ⟨(some 84), .mov, [.tmp 1], none⟩,
          ⟨(some 85), .mov, [.tmp 10], none⟩,
          ⟨(some 86), .idx 1, [.tmp 84, .tmp 85], none⟩,
          ⟨(some 87), .load 1 false, [.tmp 86], none⟩,
          ⟨(some 88), .mov, [.tmp 8], none⟩,
          ⟨(some 89), .call 23, [.tmp 83, .tmp 87, .tmp 88], none⟩,
          ⟨(some 82), .mov, [.tmp 89], none⟩,
          ⟨(some 90), .extract 0, [.tmp 82], none⟩,
          ⟨(some 91), .extract 1, [.tmp 82], none⟩,
          ⟨(some 11), .mov, [.tmp 90], none⟩,
          ⟨(some 12), .mov, [.tmp 91], none⟩] false)
        (.seq (.seq (.ops [
          ⟨(some 92), .mov, [.tmp 5], none⟩,
          ⟨(some 93), .mov, [.tmp 10], none⟩,
          ⟨(some 94), .idx 1, [.tmp 92, .tmp 93], none⟩,
          ⟨(some 95), .load 1 false, [.tmp 94], none⟩,
          ⟨(some 96), .mov, [.tmp 11], none⟩,
          ⟨(some 97), .cmp .neq, [.tmp 95, .tmp 96], none⟩,
          ⟨(some 98), .mov, [.tmp 97], none⟩,
          ⟨(some 99), .mov, [.tmp 12], (some (98, true))⟩,
          ⟨(some 100), .cmp .eql, [.tmp 99, .const (.int .i64 0)], (some (98, true))⟩,
          ⟨(some 101), .mov, [.tmp 100], (some (98, true))⟩,
          ⟨(some 102), .mov, [.tmp 5], (some (101, false))⟩,
          ⟨(some 103), .mov, [.tmp 10], (some (101, false))⟩,
          ⟨(some 104), .idx 1, [.tmp 102, .tmp 103], (some (101, false))⟩,
          ⟨(some 105), .load 1 false, [.tmp 104], (some (101, false))⟩,
          ⟨(some 106), .mov, [.tmp 11], (some (101, false))⟩,
          ⟨(some 107), .bin .add .i64 false, [.tmp 106, .const (.int .i64 1)], (some (101, false))⟩,
          ⟨(some 108), .cmp .neq, [.tmp 105, .tmp 107], (some (101, false))⟩,
          ⟨(some 109), .pick, [.tmp 101, .const (.bool true), .tmp 108], (some (98, true))⟩,
          ⟨(some 110), .pick, [.tmp 98, .tmp 109, .const (.bool false)], none⟩] false)
        (.cond (.tmp 110)
          (.seq (.ops [
            ⟨(some 4), .mov, [.const (.bool false)], none⟩] false)
          .ret)
          .skip))
        (.seq (.seq (.ops [
          ⟨(some 13), .mov, [.const (.int .i64 0)], none⟩] false)
        (.block 4
          (.loop
            (.seq (.seq (.ops [
              ⟨(some 111), .mov, [.tmp 13], none⟩,
              ⟨(some 112), .mov, [.tmp 10], none⟩,
              ⟨(some 113), .cmp .lss, [.tmp 111, .tmp 112], none⟩] false)
            (.cond (.tmp 113)
              .skip
              (.exit 4)))
            (.seq (.block 5
              (.seq (.ops [
                ⟨(some 116), .mov, [.tmp 1], none⟩,
                ⟨(some 117), .mov, [.tmp 13], none⟩,
                ⟨(some 118), .idx 1, [.tmp 116, .tmp 117], none⟩,
                ⟨(some 119), .load 1 false, [.tmp 118], none⟩,
                ⟨(some 120), .mov, [.tmp 1], none⟩,
                ⟨(some 121), .mov, [.tmp 10], none⟩,
                ⟨(some 122), .idx 1, [.tmp 120, .tmp 121], none⟩,
                ⟨(some 123), .load 1 false, [.tmp 122], none⟩,
                ⟨(some 124), .cmp .lss, [.tmp 119, .tmp 123], none⟩,
                ⟨(some 125), .mov, [.tmp 124], none⟩,
                ⟨(some 126), .mov, [.tmp 5], (some (125, true))⟩,
                ⟨(some 127), .mov, [.tmp 13], (some (125, true))⟩,
                ⟨(some 128), .idx 1, [.tmp 126, .tmp 127], (some (125, true))⟩,
                ⟨(some 129), .load 1 false, [.tmp 128], (some (125, true))⟩,
                ⟨(some 130), .mov, [.tmp 5], (some (125, true))⟩,
                ⟨(some 131), .mov, [.tmp 10], (some (125, true))⟩,
                ⟨(some 132), .idx 1, [.tmp 130, .tmp 131], (some (125, true))⟩,
                ⟨(some 133), .load 1 false, [.tmp 132], (some (125, true))⟩,
                ⟨(some 134), .cmp .gtr, [.tmp 129, .tmp 133], (some (125, true))⟩,
                ⟨(some 135), .pick, [.tmp 125, .tmp 134, .const (.bool false)], none⟩,
                ⟨(some 136), .mov, [.tmp 135], none⟩,
                ⟨(some 137), .mov, [.tmp 1], (some (136, false))⟩,
                ⟨(some 138), .mov, [.tmp 13], (some (136, false))⟩,
                ⟨(some 139), .idx 1, [.tmp 137, .tmp 138], (some (136, false))⟩,
                ⟨(some 140), .load 1 false, [.tmp 139], (some (136, false))⟩,
                ⟨(some 141), .mov, [.tmp 1], (some (136, false))⟩,
                ⟨(some 142), .mov, [.tmp 10], (some (136, false))⟩,
                ⟨(some 143), .idx 1, [.tmp 141, .tmp 142], (some (136, false))⟩,
                ⟨(some 144), .load 1 false, [.tmp 143], (some (136, false))⟩,
                ⟨(some 145), .cmp .gtr, [.tmp 140, .tmp 144], (some (136, false))⟩,
                ⟨(some 146), .mov, [.tmp 145], (some (136, false))⟩,
                ⟨(some 147), .mov, [.tmp 5], (some (146, true))⟩,
                ⟨(some 148), .mov, [.tmp 13], (some (146, true))⟩,
                ⟨(some 149), .idx 1, [.tmp 147, .tmp 148], (some (146, true))⟩,
                ⟨(some 150), .load 1 false, [.tmp 149], (some (146, true))⟩,
                ⟨(some 151), .mov, [.tmp 5], (some (146, true))⟩,
                ⟨(some 152), .mov, [.tmp 10], (some (146, true))⟩,
                ⟨(some 153), .idx 1, [.tmp 151, .tmp 152], (some (146, true))⟩,
                ⟨(some 154), .load 1 false, [.tmp 153], (some (146, true))⟩,
                ⟨(some 155), .cmp .lss, [.tmp 150, .tmp 154], (some (146, true))⟩,
                ⟨(some 156), .pick, [.tmp 146, .tmp 155, .const (.bool false)], (some (136, false))⟩,
                ⟨(some 157), .pick, [.tmp 136, .const (.bool true), .tmp 156], none⟩,
                ⟨(some 158), .mov, [.tmp 157], none⟩,
                ⟨(some 159), .mov, [.tmp 1], (some (158, false))⟩,
                ⟨(some 160), .mov, [.tmp 13], (some (158, false))⟩,
                ⟨(some 161), .idx 1, [.tmp 159, .tmp 160], (some (158, false))⟩,
                ⟨(some 162), .load 1 false, [.tmp 161], (some (158, false))⟩,
                ⟨(some 163), .mov, [.tmp 1], (some (158, false))⟩,
                ⟨(some 164), .mov, [.tmp 10], (some (158, false))⟩,
                ⟨(some 165), .idx 1, [.tmp 163, .tmp 164], (some (158, false))⟩,
                ⟨(some 166), .load 1 false, [.tmp 165], (some (158, false))⟩,
                ⟨(some 167), .cmp .eql, [.tmp 162, .tmp 166], (some (158, false))⟩,
                ⟨(some 168), .mov, [.tmp 167], (some (158, false))⟩,
                ⟨(some 169), .mov, [.tmp 5], (some (168, true))⟩,
                ⟨(some 170), .mov, [.tmp 13], (some (168, true))⟩,
                ⟨(some 171), .idx 1, [.tmp 169, .tmp 170], (some (168, true))⟩,
                ⟨(some 172), .load 1 false, [.tmp 171], (some (168, true))⟩,
                ⟨(some 173), .mov, [.tmp 5], (some (168, true))⟩,
                ⟨(some 174), .mov, [.tmp 10], (some (168, true))⟩,
                ⟨(some 175), .idx 1, [.tmp 173, .tmp 174], (some (168, true))⟩,
                ⟨(some 176), .load 1 false, [.tmp 175], (some (168, true))⟩,
                ⟨(some 177), .cmp .lss, [.tmp 172, .tmp 176], (some (168, true))⟩,
                ⟨(some 178), .pick, [.tmp 168, .tmp 177, .const (.bool false)], (some (158, false))⟩,
                ⟨(some 179), .pick, [.tmp 158, .const (.bool true), .tmp 178], none⟩] true)
              (.cond (.tmp 179)
                (.seq (.ops [
                  ⟨(some 4), .mov, [.const (.bool false)], none⟩] false)
                .ret)
                .skip)))
            (.ops [
              ⟨(some 114), .mov, [.tmp 13], none⟩,
              ⟨(some 115), .bin .add .i64 false, [.tmp 114, .const (.int .i64 1)], none⟩,
              ⟨(some 13), .mov, [.tmp 115], none⟩] false))))))
        (.ops [
          ⟨(some 180), .mov, [.tmp 7], none⟩,
          ⟨(some 181), .mov, [.tmp 5], none⟩,
          ⟨(some 182), .mov, [.tmp 10], none⟩,
          ⟨(some 183), .idx 1, [.tmp 181, .tmp 182], none⟩,
          ⟨(some 184), .load 1 false, [.tmp 183], none⟩,
          ⟨(some 185), .bin .add .i64 false, [.tmp 180, .tmp 184], none⟩,
          ⟨(some 7), .mov, [.tmp 185], none⟩] false)))))
      (.ops [
        ⟨(some 80), .mov, [.tmp 10], none⟩,
        ⟨(some 81), .bin .add .i64 false, [.tmp 80, .const (.int .i64 1)], none⟩,
        ⟨(some 10), .mov, [.tmp 81], none⟩] false))))))
  (.seq (.ops [
    ⟨(some 186), .mov, [.tmp 7], none⟩,
    ⟨(some 187), .mov, [.tmp 0], none⟩,
    ⟨(some 188), .cmp .eql, [.tmp 186, .tmp 187], none⟩,
    ⟨(some 4), .mov, [.tmp 188], none⟩] false)
  .ret)))))))))))⟩
theorem lawLow : lowF Try.prog {} Try.f7 = some lawIr := by kernel_rfl
def lawS : Spec := spec (Int × List Int) (fun p => [I p.1, L 1 (p.2.map e1)]) (fun _ => True) (fun _ => B true)
set_option maxHeartbeats 4000000 in
theorem lawV : fnV Try.prog lawIr lawS := by
  intro ⟨(a : Int), (ws : List Int)⟩ _
  show vc _ _ _ _ ⟨argEnv 0 [I a, L 1 (ws.map e1)], [], 0⟩
  have hl : (ws.map e1).length = ws.length := List.length_map ..
  by_cases h8 : 100 < ws.length
  · repeat' ((conv => whnf); first | (refine ⟨fun h => ?_, fun h => ?_⟩ <;> try (exfalso; first | omega | exact absurd h (by decide) | exact h rfl)) | (refine ⟨_, alive_h, (), trivial, leVs_of_eq rfl, .inl rfl, rfl, ?_⟩; show norm (B true) _) | exact ⟨[], rfl, trivial, rfl⟩ | fail)
  by_cases hc : chkF a ws = 0
  · have g := good_of hc
    have hsp : splT a ws = .tup [L 1 ((partsL a ws).map e1), I 0] := by unfold splT; rw [if_pos hc, hc]
    have hpl := partsL_len a ws
    have hpl1 : ((partsL a ws).map e1).length = (partsL a ws).length := List.length_map ..
    have hpa : ws.length ≤ 1000000 ∧ (partsL a ws).length ≤ 1000000 := by omega
    have hfp := fair_parts g
    have hfr : decide (chkF a ws = 0 ∧ fairP a ws (partsL a ws)) = true := decide_eq_true ⟨hc, hfp⟩
    have hsw : ∀ x ∈ ws, -2199023255552 ≤ x ∧ x ≤ 2199023255552 := fun x hx => by have := g.wOk x hx; omega
    have hspb := fair_bnd g hfp.1 hfp.2.1
    have hs0 := g.s0
    have hs1 := g.s1
    have ha0 := g.a0
    have ha1 := g.a1
    repeat' ((conv => whnf); first | (refine ⟨fun h => ?_, fun h => ?_⟩ <;> try (exfalso; first | omega | exact absurd h (by decide) | exact h rfl)) | (refine ⟨_, alive_h, (), trivial, leVs_of_eq rfl, .inl rfl, rfl, ?_⟩; show norm (B true) _) | (refine ⟨_, split_h, (a, ws), (by show ws.length ≤ 1000000; omega), leVs_of_eq rfl, .inl rfl, rfl, ?_⟩; show norm (splT a ws) _; rw [hsp]) | (refine ⟨_, fair_h, (a, ws, (partsL a ws)), hpa, leVs_of_eq rfl, .inl rfl, rfl, ?_⟩; show norm (B (decide (chkF a ws = 0 ∧ fairP a ws (partsL a ws)))) _; rw [hfr]) | fail | fail)
    refine ⟨Nat × Int, fun xq => ⟨[(0, I a), (1, L 1 (ws.map e1)), (5, L 1 ((partsL a ws).map e1)), (7, I 0), (8, I xq.2), (9, I xq.1)], [], 0⟩, fun xq => xq.1 ≤ ws.length ∧ xq.2 = (ws.take xq.1).sum, fun xq => ws.length - xq.1, ⟨(0, 0), ?_, [], ⟨⟨rfl, rfl⟩, ⟨⟨rfl, rfl⟩, ⟨⟨rfl, rfl⟩, ⟨⟨rfl, rfl⟩, ⟨⟨rfl, rfl⟩, ⟨⟨rfl, rfl⟩, trivial⟩⟩⟩⟩⟩⟩, trivial, rfl, rfl, rfl⟩, ?_⟩
    · (try dsimp only); exact ⟨Nat.zero_le _, rfl⟩
    rintro ⟨k, s⟩ hk
    obtain ⟨hk, hs⟩ : k ≤ ws.length ∧ s = (ws.take k).sum := hk
    (try dsimp only)
    by_cases hkl : k < ws.length
    · obtain ⟨x, hx⟩ := getElem_some hkl
      have hbk := sum_bnd (l := ws.take k) fun y hy => hsw y (List.mem_of_mem_take hy)
      rw [← hs, List.length_take] at hbk
      obtain ⟨w0, w1⟩ := g.wOk x (List.mem_of_getElem? hx)
      repeat' ((conv => whnf); first | (refine ⟨fun h => ?_, fun h => ?_⟩ <;> try (exfalso; first | omega | exact absurd h (by decide) | exact h rfl)) | (refine ⟨by omega, fun r hrr => ?_⟩; first | ((have hre : r = e1 x := by (first | exact get_row hrr hx | fail)); subst hre)) | (refine ⟨(k + 1, _), ⟨?_, by (try dsimp only); omega⟩, [], ⟨⟨rfl, rfl⟩, ⟨⟨rfl, rfl⟩, ⟨⟨rfl, rfl⟩, ⟨⟨rfl, rfl⟩, ⟨⟨rfl, rfl⟩, ⟨⟨rfl, rfl⟩, trivial⟩⟩⟩⟩⟩⟩, trivial, rfl, rfl, rfl⟩; (try dsimp only); exact ⟨by omega, by rw [sum_take hx, hs]⟩) | refine ⟨⟨by omega, by omega⟩, ?_⟩ | fail)
    rw [take_end hkl] at hs
    subst hs
    repeat' ((conv => whnf); first | (refine ⟨fun h => ?_, fun h => ?_⟩ <;> try (exfalso; first | omega | exact absurd h (by decide) | exact h rfl)) | fail | fail)
    refine ⟨Nat × Int, fun xq => ⟨[(0, I a), (1, L 1 (ws.map e1)), (5, L 1 ((partsL a ws).map e1)), (7, I xq.2), (8, I ws.sum), (10, I xq.1)], [], 0⟩, fun xq => xq.1 ≤ ws.length ∧ xq.2 = ((partsL a ws).take xq.1).sum, fun xq => ws.length - xq.1, ⟨(0, 0), ?_, [], ⟨⟨rfl, rfl⟩, ⟨⟨rfl, rfl⟩, ⟨⟨rfl, rfl⟩, ⟨⟨rfl, rfl⟩, ⟨⟨rfl, rfl⟩, ⟨⟨rfl, rfl⟩, trivial⟩⟩⟩⟩⟩⟩, trivial, rfl, rfl, rfl⟩, ?_⟩
    · (try dsimp only); exact ⟨Nat.zero_le _, rfl⟩
    rintro ⟨i, t⟩ hk
    obtain ⟨hi, ht⟩ : i ≤ ws.length ∧ t = ((partsL a ws).take i).sum := hk
    (try dsimp only)
    have hbk := sum_bnd (l := (partsL a ws).take i) fun y hy => hspb y (List.mem_of_mem_take hy)
    rw [← ht, List.length_take] at hbk
    by_cases hil : i < ws.length
    · obtain ⟨w, hw⟩ := getElem_some hil
      obtain ⟨p, hp⟩ := getElem_some (xs := (partsL a ws)) (k := i) (by omega)
      obtain ⟨w0, w1⟩ := g.wOk w (List.mem_of_getElem? hw)
      have hws := le_sum (fun w hw => (g.wOk w hw).1) w (List.mem_of_getElem? hw)
      obtain ⟨q0, q1⟩ := g.q (List.mem_of_getElem? hw)
      have hpb := hspb p (List.mem_of_getElem? hp)
      have hok : p = a * w / ws.sum ∨ (a * w % ws.sum ≠ 0 ∧ p = a * w / ws.sum + 1) := parts_ok g hw hp
      repeat' ((conv => whnf); first | (refine ⟨fun h => ?_, fun h => ?_⟩ <;> try (exfalso; first | omega | exact absurd h (by decide) | exact h rfl)) | (refine ⟨by omega, fun r hrr => ?_⟩; first | ((have hre : r = e1 w := by (first | exact get_row hrr hw | fail)); subst hre) | ((have hre : r = e1 p := by (first | exact get_row hrr hp | fail)); subst hre)) | (refine ⟨_, quo_h, (a, w, ws.sum), (by show (0 ≤ a ∧ a ≤ 1099511627776) ∧ (0 ≤ w ∧ w ≤ 1000000000) ∧ (1 ≤ ws.sum ∧ ws.sum ≤ 64000000000) ∧ w ≤ ws.sum; omega), leVs_of_eq rfl, .inl rfl, rfl, ?_⟩; show norm (.tup [I (a * w / ws.sum), I (a * w % ws.sum)]) _) | refine ⟨⟨by omega, by omega⟩, ?_⟩ | fail | fail)
      all_goals (skip)
      all_goals
        refine ⟨Nat, fun xq => ⟨[(0, I a), (1, L 1 (ws.map e1)), (5, L 1 ((partsL a ws).map e1)), (7, I t), (8, I ws.sum), (10, I i), (13, I xq)], [], 0⟩, fun xq => xq ≤ i, fun xq => i - xq, ⟨0, ?_, [], ⟨⟨rfl, rfl⟩, ⟨⟨rfl, rfl⟩, ⟨⟨rfl, rfl⟩, ⟨⟨rfl, rfl⟩, ⟨⟨rfl, rfl⟩, ⟨⟨rfl, rfl⟩, ⟨⟨rfl, rfl⟩, trivial⟩⟩⟩⟩⟩⟩⟩, trivial, rfl, rfl, rfl⟩, ?_⟩
        · (try dsimp only); exact Nat.zero_le _
        rintro k hk
        obtain hk2 : k ≤ i := hk
        (try dsimp only)
        by_cases hki : k < i
        · obtain ⟨u, hu⟩ := getElem_some (xs := ws) (k := k) (by omega)
          obtain ⟨o, ho⟩ := getElem_some (xs := (partsL a ws)) (k := k) (by omega)
          have hmo : (u < w ∧ o ≤ p) ∨ (w < u ∧ p ≤ o) ∨ (u = w ∧ p ≤ o) := by
            rcases Int.lt_trichotomy u w with h | h | h
            · exact .inl ⟨h, parts_mono g hu hw ho hp (by omega) (.inl h)⟩
            · exact .inr (.inr ⟨h, parts_mono g hw hu hp ho (by omega) (.inr hki)⟩)
            · exact .inr (.inl ⟨h, parts_mono g hw hu hp ho (by omega) (.inl h)⟩)
          rcases hmo with hmo | hmo | hmo
          · repeat' ((conv => whnf); first | (refine ⟨fun h => ?_, fun h => ?_⟩ <;> try (exfalso; first | omega | exact absurd h (by decide) | exact h rfl)) | (refine ⟨by omega, fun r hrr => ?_⟩; first | ((have hre : r = e1 u := by (first | exact get_row hrr hu | fail)); subst hre) | ((have hre : r = e1 w := by (first | exact get_row hrr hw | fail)); subst hre) | ((have hre : r = e1 o := by (first | exact get_row hrr ho | fail)); subst hre) | ((have hre : r = e1 p := by (first | exact get_row hrr hp | fail)); subst hre)) | (refine ⟨k + 1, ⟨?_, by (try dsimp only); omega⟩, [], ⟨⟨rfl, rfl⟩, ⟨⟨rfl, rfl⟩, ⟨⟨rfl, rfl⟩, ⟨⟨rfl, rfl⟩, ⟨⟨rfl, rfl⟩, ⟨⟨rfl, rfl⟩, ⟨⟨rfl, rfl⟩, trivial⟩⟩⟩⟩⟩⟩⟩, trivial, rfl, rfl, rfl⟩; (try dsimp only); omega) | refine ⟨⟨by omega, by omega⟩, ?_⟩ | fail)
          · repeat' ((conv => whnf); first | (refine ⟨fun h => ?_, fun h => ?_⟩ <;> try (exfalso; first | omega | exact absurd h (by decide) | exact h rfl)) | (refine ⟨by omega, fun r hrr => ?_⟩; first | ((have hre : r = e1 u := by (first | exact get_row hrr hu | fail)); subst hre) | ((have hre : r = e1 w := by (first | exact get_row hrr hw | fail)); subst hre) | ((have hre : r = e1 o := by (first | exact get_row hrr ho | fail)); subst hre) | ((have hre : r = e1 p := by (first | exact get_row hrr hp | fail)); subst hre)) | (refine ⟨k + 1, ⟨?_, by (try dsimp only); omega⟩, [], ⟨⟨rfl, rfl⟩, ⟨⟨rfl, rfl⟩, ⟨⟨rfl, rfl⟩, ⟨⟨rfl, rfl⟩, ⟨⟨rfl, rfl⟩, ⟨⟨rfl, rfl⟩, ⟨⟨rfl, rfl⟩, trivial⟩⟩⟩⟩⟩⟩⟩, trivial, rfl, rfl, rfl⟩; (try dsimp only); omega) | refine ⟨⟨by omega, by omega⟩, ?_⟩ | fail)
          · repeat' ((conv => whnf); first | (refine ⟨fun h => ?_, fun h => ?_⟩ <;> try (exfalso; first | omega | exact absurd h (by decide) | exact h rfl)) | (refine ⟨by omega, fun r hrr => ?_⟩; first | ((have hre : r = e1 u := by (first | exact get_row hrr hu | fail)); subst hre) | ((have hre : r = e1 w := by (first | exact get_row hrr hw | fail)); subst hre) | ((have hre : r = e1 o := by (first | exact get_row hrr ho | fail)); subst hre) | ((have hre : r = e1 p := by (first | exact get_row hrr hp | fail)); subst hre)) | (refine ⟨k + 1, ⟨?_, by (try dsimp only); omega⟩, [], ⟨⟨rfl, rfl⟩, ⟨⟨rfl, rfl⟩, ⟨⟨rfl, rfl⟩, ⟨⟨rfl, rfl⟩, ⟨⟨rfl, rfl⟩, ⟨⟨rfl, rfl⟩, ⟨⟨rfl, rfl⟩, trivial⟩⟩⟩⟩⟩⟩⟩, trivial, rfl, rfl, rfl⟩; (try dsimp only); omega) | refine ⟨⟨by omega, by omega⟩, ?_⟩ | fail)
        · repeat' ((conv => whnf); first | (refine ⟨fun h => ?_, fun h => ?_⟩ <;> try (exfalso; first | omega | exact absurd h (by decide) | exact h rfl)) | (refine ⟨by omega, fun r hrr => ?_⟩; first | ((have hre : r = e1 p := by (first | exact get_row hrr hp | fail)); subst hre)) | (refine ⟨(i + 1, _), ⟨?_, by (try dsimp only); omega⟩, [], ⟨⟨rfl, rfl⟩, ⟨⟨rfl, rfl⟩, ⟨⟨rfl, rfl⟩, ⟨⟨rfl, rfl⟩, ⟨⟨rfl, rfl⟩, ⟨⟨rfl, rfl⟩, trivial⟩⟩⟩⟩⟩⟩, trivial, rfl, rfl, rfl⟩; (try dsimp only); exact ⟨by omega, by rw [sum_take hp, ht]⟩) | refine ⟨⟨by omega, by omega⟩, ?_⟩ | fail)
    · have hti : ((partsL a ws).take i).sum = a := by rw [take_end (by omega)]; exact g.sum
      rw [hti] at ht
      subst ht
      repeat' ((conv => whnf); first | (refine ⟨fun h => ?_, fun h => ?_⟩ <;> try (exfalso; first | omega | exact absurd h (by decide) | exact h rfl)) | exact ⟨[], rfl, trivial, rfl⟩ | fail)
  · have hsp : splT a ws = .tup [L 1 [], I (chkF a ws)] := by unfold splT; rw [if_neg hc]; rfl
    repeat' ((conv => whnf); first | (refine ⟨fun h => ?_, fun h => ?_⟩ <;> try (exfalso; first | omega | exact absurd h (by decide) | exact h rfl)) | (refine ⟨_, alive_h, (), trivial, leVs_of_eq rfl, .inl rfl, rfl, ?_⟩; show norm (B true) _) | (refine ⟨_, split_h, (a, ws), (by show ws.length ≤ 1000000; omega), leVs_of_eq rfl, .inl rfl, rfl, ?_⟩; show norm (splT a ws) _; rw [hsp]) | exact ⟨[], rfl, trivial, rfl⟩ | fail)
theorem law_h : Holds Try.prog 7 lawS := holds_of mix Try.func7 lawLow (fun _ => rfl) lawV

/-! ### THE ROW's STEP -/
theorem own : ownKnob Try.prog.godebug = none := by kernel_rfl
theorem laidOut : laidOutB Try.prog = true := by kernel_rfl
set_option maxRecDepth 100000 in
theorem lifted (os : Os) (started : os.Started) (H : Type) (enc : TypeId × Value → H) :
    ReturnsInHanded {} Try.checked os 7 .any (Rows.splitExactSpec.pre6 enc Try.prog Try.f7 Rows.splitExactRow.domain false) (Rows.splitExactSpec.post enc Try.prog Try.f7 false true false false) := by
  refine returnsInHanded_of_change (C := Try.checked) own started (by kernel_rfl) Try.func7
    (ChangeSpec.witness6 (enc := enc) (C := Try.checked) false ⟨#[], #[.int .i64 0, .slice none 0 0], []⟩ 8 (by kernel_rfl) (by kernel_rfl) (by kernel_rfl) (by kernel_rfl)) ?_
  intro W base args ds gs before hval0 hW hcnd _
  have hval : ∀ (j : Nat) t v, Try.f7.params[j]? = some t → args[j]? = some v → Value.okWide Try.prog W .any base t v := hval0
  have hW' := hW
  obtain ⟨p, q, hA0, hV, rfl, hfz, hnd⟩ := hW
  have hA : DataW.TrodAll enc Try.prog W 0 (fun _ => true) true Try.f7.params.toList args.toList ds p := hA0
  rw [Try.params7] at hA hval
  obtain ⟨v0, vs0, d0, ds0, p0, q0, hargs, rfl, rfl, h0, r0⟩ := trodAll_cons hA
  obtain ⟨v1, vs1, d1, ds1, p1, q1, rfl, rfl, rfl, h1, r1⟩ := trodAll_cons r0
  obtain ⟨rfl, rfl, rfl⟩ := trodAll_nil r1
  obtain rfl : args = #[v0, v1] := by cases args; simp_all
  obtain ⟨rfl, rfl⟩ := trodVars_none hV
  have lt0 : ∀ x ∈ p0, x.block < W.heap.size := by obtain ⟨m, hm⟩ := h0; exact DataW.trod_lt m _ _ _ hm
  obtain ⟨z0, w0, x0⟩ := open_i Try.underlying3 (hval 0 3 v0 rfl rfl) h0
  have lt1 : ∀ x ∈ p1, x.block < W.heap.size := by obtain ⟨m, hm⟩ := h1; exact DataW.trod_lt m _ _ _ hm
  obtain ⟨z1, w1, x1⟩ := openI (hval 1 22 v1 rfl rfl) h1
  clear hA0 hval0
  refine Calls.mono (law_calls law_h (z0, z1) trivial rfl (vs := [v0, v1]) (replist_mk x0 (replist_mk x1 replist_mk0))) fun e W' ⟨he, bel⟩ => ?_
  subst he
  exact ⟨_, rfl, _, _, _, [], _, [], hW', trodAll_mk1 (shut_bool Try.underlying4 _), (trodAll_cons_mk (Below.trod laidOut (by kernel_rfl) (of_decide_eq_true (by kernel_rfl)) h0 bel lt0) (trodAll_cons_mk (Below.trod laidOut (by kernel_rfl) (of_decide_eq_true (by kernel_rfl)) h1 bel lt1) trodAll_mk0)), rfl, bel.frame _, fun h => by cases h⟩

theorem over : Rows.splitExactRow.holds Try.pinned (OpenSpec.ofChange Rows.splitExactSpec) :=
  OpenClaim.holds_of_wide 7 Try.f7 rfl rfl rfl rfl rfl rfl rfl ⟨rfl, rfl, rfl, rfl, rfl⟩ rfl rfl rfl rfl rfl (by kernel_rfl) Try.func7 (by kernel_rfl)
    (of_decide_eq_true (by kernel_rfl)) (by unfold Func.isWrapper; first | (rw [if_pos (by decide +kernel)]; kernel_rfl) | (rw [if_neg (by decide +kernel)]; exact ⟨rfl, rfl⟩))
    (fun os started H enc _ => lifted os started H enc)

theorem proved : Rows.SplitExactSaid := over
end Go.Proofs.Ytepacknnggnifaa.lawExact
