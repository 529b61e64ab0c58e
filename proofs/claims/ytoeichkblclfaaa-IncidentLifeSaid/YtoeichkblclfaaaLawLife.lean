/- IncidentLife: an incident passes through its states in their order, has a team exactly from Sent to Leaving, and leaves the scene only after it was judged; other incidents do not change. No condition. -/
import Derived.Test.YtoeichkblclfaaaArg
import Derived.Test.YtoeichkblclfaaaO1
namespace Go.Proofs.Ytoeichkblclfaaa.lawLife
open Go.ChangeShapes Go.WideShapes Go.ChangeAt Go.RowKit Go.Deep Go.Joins
set_option linter.unusedVariables false
set_option maxRecDepth 20000

/-! skiarea/skiarealaw57.IncidentLife -/
def lawIr : IFn := ⟨239, [.tmp 4],
  (.seq (.ops [
    ⟨(some 4), .mov, [.const (.bool false)], none⟩] false)
  (.seq (.seq (.ops [
    ⟨(some 13), .call 9, [], none⟩,
    ⟨(some 14), .not, [.tmp 13], none⟩] false)
  (.cond (.tmp 14)
    (.seq (.ops [
      ⟨(some 4), .mov, [.const (.bool false)], none⟩] false)
    .ret)
    .skip))
  (.seq (.seq (.ops [
    ⟨(some 15), .mov, [.tmp 0], none⟩,
    ⟨(some 16), .call 12, [.tmp 15], none⟩,
    ⟨(some 17), .not, [.tmp 16], none⟩,
    ⟨(some 18), .mov, [.tmp 17], none⟩,
    ⟨(some 19), .mov, [.tmp 1], (some (18, false))⟩,
    ⟨(some 20), .len, [.tmp 19], (some (18, false))⟩,
    ⟨(some 21), .cmp .gtr, [.tmp 20, .const (.int .i64 80)], (some (18, false))⟩,
    ⟨(some 22), .pick, [.tmp 18, .const (.bool true), .tmp 21], none⟩] false)
  (.cond (.tmp 22)
    (.seq (.ops [
      ⟨(some 4), .mov, [.const (.bool true)], none⟩] false)
    .ret)
    .skip))
  (.seq (.seq (.ops [
    ⟨(some 5), .mov, [.const (.int .i64 0)], none⟩] false)
  (.block 0
    (.loop
      (.seq (.seq (.ops [
        ⟨(some 23), .mov, [.tmp 5], none⟩,
        ⟨(some 24), .mov, [.tmp 1], none⟩,
        ⟨(some 25), .len, [.tmp 24], none⟩,
        ⟨(some 26), .cmp .lss, [.tmp 23, .tmp 25], none⟩] false)
      (.cond (.tmp 26)
        .skip
        (.exit 0)))
      (.seq (.block 1
        (.seq (.ops [
          ⟨(some 29), .mov, [.tmp 1], none⟩,
          ⟨(some 30), .mov, [.tmp 5], none⟩,
          ⟨(some 31), .idx 4, [.tmp 29, .tmp 30], none⟩,
          ⟨(some 32), .load 4 true, [.tmp 31], none⟩,
          ⟨(some 6), .alloc [.int .i64 0, .int .i64 0, .int .i64 0, .int .i64 0], [], none⟩,
          ⟨none, .store 4, [.tmp 6, .tmp 32], none⟩] false)
        (.seq (.ops [
          ⟨(some 34), .mov, [.tmp 0], none⟩,
          ⟨(some 35), .load 4 true, [.tmp 6], none⟩,
          ⟨(some 36), .call 13, [.tmp 34, .tmp 35], none⟩,
          ⟨(some 33), .mov, [.tmp 36], none⟩,
          ⟨(some 37), .extract 0, [.tmp 33], none⟩,
          ⟨(some 38), .extract 1, [.tmp 33], none⟩,
          ⟨(some 7), .mov, [.tmp 37], none⟩,
          ⟨(some 8), .mov, [.tmp 38], none⟩] false)
        (.seq (.seq (.ops [
          ⟨(some 39), .mov, [.tmp 8], none⟩,
          ⟨(some 40), .cmp .neq, [.tmp 39, .const (.int .i64 0)], none⟩] false)
        (.cond (.tmp 40)
          (.seq (.seq (.ops [
            ⟨(some 41), .mov, [.tmp 7], none⟩,
            ⟨(some 42), .len, [.tmp 41], none⟩,
            ⟨(some 43), .cmp .neq, [.tmp 42, .const (.int .i64 0)], none⟩] false)
          (.cond (.tmp 43)
            (.seq (.ops [
              ⟨(some 4), .mov, [.const (.bool false)], none⟩] false)
            .ret)
            .skip))
          (.exit 1))
          .skip))
        (.seq (.seq (.ops [
          ⟨(some 44), .mov, [.tmp 7], none⟩,
          ⟨(some 45), .len, [.tmp 44], none⟩,
          ⟨(some 46), .mov, [.tmp 0], none⟩,
          ⟨(some 47), .len, [.tmp 46], none⟩,
          ⟨(some 48), .cmp .lss, [.tmp 45, .tmp 47], none⟩,
          ⟨(some 49), .mov, [.tmp 48], none⟩,
          ⟨(some 50), .mov, [.tmp 7], (some (49, false))⟩,
          ⟨(some 51), .len, [.tmp 50], (some (49, false))⟩,
          ⟨(some 52), .mov, [.tmp 0], (some (49, false))⟩,
          ⟨(some 53), .len, [.tmp 52], (some (49, false))⟩,
          ⟨(some 54), .cmp .neq, [.tmp 51, .tmp 53], (some (49, false))⟩,
          ⟨(some 55), .mov, [.tmp 54], (some (49, false))⟩,
          ⟨(some 56), .faddr 0, [.tmp 6], (some (55, true))⟩,
          ⟨(some 57), .load 1 false, [.tmp 56], (some (55, true))⟩,
          ⟨(some 58), .cmp .neq, [.tmp 57, .const (.int .i64 0)], (some (55, true))⟩,
          ⟨(some 59), .mov, [.tmp 58], (some (55, true))⟩,
          ⟨(some 60), .mov, [.tmp 7], (some (59, false))⟩,
          ⟨(some 61), .len, [.tmp 60], (some (59, false))⟩,
          ⟨(some 62), .mov, [.tmp 0], (some (59, false))⟩,
          ⟨(some 63), .len, [.tmp 62], (some (59, false))⟩,
          ⟨(some 64), .bin .add .i64 false, [.tmp 63, .const (.int .i64 1)], (some (59, false))⟩,
          ⟨(some 65), .cmp .neq, [.tmp 61, .tmp 64], (some (59, false))⟩,
          ⟨(some 66), .pick, [.tmp 59, .const (.bool true), .tmp 65], (some (55, true))⟩,
          ⟨(some 67), .pick, [.tmp 55, .tmp 66, .const (.bool false)], (some (49, false))⟩,
          ⟨(some 68), .pick, [.tmp 49, .const (.bool true), .tmp 67], none⟩,
          ⟨(some 69), .mov, [.tmp 68], none⟩,
          ⟨(some 70), .mov, [.tmp 7], (some (69, false))⟩,
          ⟨(some 71), .len, [.tmp 70], (some (69, false))⟩,
          ⟨(some 72), .mov, [.tmp 0], (some (69, false))⟩,
          ⟨(some 73), .len, [.tmp 72], (some (69, false))⟩,
          ⟨(some 74), .cmp .eql, [.tmp 71, .tmp 73], (some (69, false))⟩,
          ⟨(some 75), .mov, [.tmp 74], (some (69, false))⟩,
          ⟨(some 76), .faddr 0, [.tmp 6], (some (75, true))⟩,
          ⟨(some 77), .load 1 false, [.tmp 76], (some (75, true))⟩,
          ⟨(some 78), .cmp .eql, [.tmp 77, .const (.int .i64 0)], (some (75, true))⟩,
          ⟨(some 79), .pick, [.tmp 75, .tmp 78, .const (.bool false)], (some (69, false))⟩,
          ⟨(some 80), .pick, [.tmp 69, .const (.bool true), .tmp 79], none⟩] false)
        (.cond (.tmp 80)
          (.seq (.ops [
            ⟨(some 4), .mov, [.const (.bool false)], none⟩] false)
          .ret)
          .skip))
        (.seq (.seq (.ops [
          ⟨(some 9), .mov, [.const (.int .i64 0)], none⟩] false)
        (.block 2
          (.loop
            (.seq (.seq (.ops [
              ⟨(some 81), .mov, [.tmp 9], none⟩,
              ⟨(some 82), .mov, [.tmp 7], none⟩,
              ⟨(some 83), .len, [.tmp 82], none⟩,
              ⟨(some 84), .cmp .lss, [.tmp 81, .tmp 83], none⟩] false)
            (.cond (.tmp 84)
              .skip
              (.exit 2)))
            (.seq (.block 3
              (.seq (.seq (.ops [
                ⟨(some 87), .mov, [.tmp 9], none⟩,
                ⟨(some 88), .mov, [.tmp 0], none⟩,
                ⟨(some 89), .len, [.tmp 88], none⟩,
                ⟨(some 90), .cmp .geq, [.tmp 87, .tmp 89], none⟩] false)
              (.cond (.tmp 90)
                (.seq (.seq (.ops [
                  ⟨(some 91), .mov, [.tmp 7], none⟩,
                  ⟨(some 92), .mov, [.tmp 9], none⟩,
                  ⟨(some 93), .idx 6, [.tmp 91, .tmp 92], none⟩,
                  ⟨(some 94), .load 6 true, [.tmp 93], none⟩,
                  ⟨(some 95), .faddr 1, [.tmp 6], none⟩,
                  ⟨(some 96), .load 1 false, [.tmp 95], none⟩,
                  ⟨(some 97), .faddr 2, [.tmp 6], none⟩,
                  ⟨(some 98), .load 1 false, [.tmp 97], none⟩,
                  ⟨(some 99), .faddr 3, [.tmp 6], none⟩,
                  ⟨(some 100), .load 1 false, [.tmp 99], none⟩,
                  ⟨(some 101), .build [.int .i64 0, .int .i64 0, .int .i64 0, .int .i64 0, .int .i64 0, .int .i64 0] [(0, 1), (1, 1), (3, 1), (5, 1)], [.tmp 96, .tmp 98, .const (.int .i64 1), .tmp 100], none⟩,
                  ⟨(some 102), .eqa [false, false, false, false, false, false] true, [.tmp 94, .tmp 101], none⟩] true)
                (.cond (.tmp 102)
                  (.seq (.ops [
                    ⟨(some 4), .mov, [.const (.bool false)], none⟩] false)
                  .ret)
                  .skip))
                (.exit 3))
                .skip))
              (.seq (.ops [
                ⟨(some 103), .mov, [.tmp 0], none⟩,
                ⟨(some 104), .mov, [.tmp 9], none⟩,
                ⟨(some 105), .idxR 6, [.tmp 103, .tmp 104], none⟩,
                ⟨(some 106), .loadR 6 true, [.tmp 105], none⟩,
                ⟨(some 107), .mov, [.tmp 7], none⟩,
                ⟨(some 108), .mov, [.tmp 9], none⟩,
                ⟨(some 109), .idxR 6, [.tmp 107, .tmp 108], none⟩,
                ⟨(some 110), .loadR 6 true, [.tmp 109], none⟩,
                ⟨(some 10), .alloc [.int .i64 0, .int .i64 0, .int .i64 0, .int .i64 0, .int .i64 0, .int .i64 0], [], none⟩,
                ⟨(some 11), .alloc [.int .i64 0, .int .i64 0, .int .i64 0, .int .i64 0, .int .i64 0, .int .i64 0], [], none⟩,
                ⟨none, .store 6, [.tmp 10, .tmp 106], none⟩,
                ⟨none, .store 6, [.tmp 11, .tmp 110], none⟩] true)
              (.seq (.seq (.ops [
                ⟨(some 111), .faddr 0, [.tmp 10], none⟩,
                ⟨(some 112), .load 1 false, [.tmp 111], none⟩,
                ⟨(some 113), .faddr 1, [.tmp 6], none⟩,
                ⟨(some 114), .load 1 false, [.tmp 113], none⟩,
                ⟨(some 115), .cmp .neq, [.tmp 112, .tmp 114], none⟩,
                ⟨(some 116), .mov, [.tmp 115], none⟩,
                ⟨(some 117), .faddr 0, [.tmp 6], (some (116, false))⟩,
                ⟨(some 118), .load 1 false, [.tmp 117], (some (116, false))⟩,
                ⟨(some 119), .cmp .eql, [.tmp 118, .const (.int .i64 0)], (some (116, false))⟩,
                ⟨(some 120), .pick, [.tmp 116, .const (.bool true), .tmp 119], none⟩] false)
              (.cond (.tmp 120)
                (.seq (.seq (.ops [
                  ⟨(some 121), .load 6 true, [.tmp 10], none⟩,
                  ⟨(some 122), .load 6 true, [.tmp 11], none⟩,
                  ⟨(some 123), .eqa [false, false, false, false, false, false] true, [.tmp 121, .tmp 122], none⟩] false)
                (.cond (.tmp 123)
                  (.seq (.ops [
                    ⟨(some 4), .mov, [.const (.bool false)], none⟩] false)
                  .ret)
                  .skip))
                (.exit 3))
                .skip))
              (.seq (.ops [
                ⟨(some 124), .faddr 3, [.tmp 11], none⟩,
                ⟨(some 125), .load 1 false, [.tmp 124], none⟩,
                ⟨(some 126), .faddr 3, [.tmp 10], none⟩,
                ⟨(some 127), .load 1 false, [.tmp 126], none⟩,
                ⟨(some 128), .bin .sub .i64 false, [.tmp 125, .tmp 127], none⟩,
                ⟨(some 12), .mov, [.tmp 128], none⟩] false)
              (.seq (.seq (.ops [
                ⟨(some 129), .faddr 5, [.tmp 11], none⟩,
                ⟨(some 130), .load 1 false, [.tmp 129], none⟩,
                ⟨(some 131), .faddr 3, [.tmp 6], none⟩,
                ⟨(some 132), .load 1 false, [.tmp 131], none⟩,
                ⟨(some 133), .cmp .neq, [.tmp 130, .tmp 132], none⟩,
                ⟨(some 134), .mov, [.tmp 133], none⟩,
                ⟨(some 135), .faddr 5, [.tmp 11], (some (134, false))⟩,
                ⟨(some 136), .load 1 false, [.tmp 135], (some (134, false))⟩,
                ⟨(some 137), .faddr 5, [.tmp 10], (some (134, false))⟩,
                ⟨(some 138), .load 1 false, [.tmp 137], (some (134, false))⟩,
                ⟨(some 139), .cmp .lss, [.tmp 136, .tmp 138], (some (134, false))⟩,
                ⟨(some 140), .pick, [.tmp 134, .const (.bool true), .tmp 139], none⟩,
                ⟨(some 141), .mov, [.tmp 140], none⟩,
                ⟨(some 142), .faddr 0, [.tmp 11], (some (141, false))⟩,
                ⟨(some 143), .load 1 false, [.tmp 142], (some (141, false))⟩,
                ⟨(some 144), .faddr 0, [.tmp 10], (some (141, false))⟩,
                ⟨(some 145), .load 1 false, [.tmp 144], (some (141, false))⟩,
                ⟨(some 146), .cmp .neq, [.tmp 143, .tmp 145], (some (141, false))⟩,
                ⟨(some 147), .pick, [.tmp 141, .const (.bool true), .tmp 146], none⟩,
                ⟨(some 148), .mov, [.tmp 147], none⟩,
                ⟨(some 149), .faddr 1, [.tmp 11], (some (148, false))⟩,
                ⟨(some 150), .load 1 false, [.tmp 149], (some (148, false))⟩,
                ⟨(some 151), .faddr 1, [.tmp 10], (some (148, false))⟩,
                ⟨(some 152), .load 1 false, [.tmp 151], (some (148, false))⟩,
                ⟨(some 153), .cmp .neq, [.tmp 150, .tmp 152], (some (148, false))⟩,
                ⟨(some 154), .pick, [.tmp 148, .const (.bool true), .tmp 153], none⟩,
                ⟨(some 155), .mov, [.tmp 154], none⟩,
                ⟨(some 156), .faddr 0, [.tmp 6], (some (155, false))⟩,
                ⟨(some 157), .load 1 false, [.tmp 156], (some (155, false))⟩,
                ⟨(some 158), .cmp .eql, [.tmp 157, .const (.int .i64 1)], (some (155, false))⟩,
                ⟨(some 159), .mov, [.tmp 158], (some (155, false))⟩,
                ⟨(some 160), .mov, [.tmp 12], (some (159, true))⟩,
                ⟨(some 161), .cmp .neq, [.tmp 160, .const (.int .i64 0)], (some (159, true))⟩,
                ⟨(some 162), .mov, [.tmp 161], (some (159, true))⟩,
                ⟨(some 163), .faddr 4, [.tmp 11], (some (162, false))⟩,
                ⟨(some 164), .load 1 false, [.tmp 163], (some (162, false))⟩,
                ⟨(some 165), .faddr 4, [.tmp 10], (some (162, false))⟩,
                ⟨(some 166), .load 1 false, [.tmp 165], (some (162, false))⟩,
                ⟨(some 167), .cmp .neq, [.tmp 164, .tmp 166], (some (162, false))⟩,
                ⟨(some 168), .pick, [.tmp 162, .const (.bool true), .tmp 167], (some (159, true))⟩,
                ⟨(some 169), .mov, [.tmp 168], (some (159, true))⟩,
                ⟨(some 170), .faddr 2, [.tmp 11], (some (169, false))⟩,
                ⟨(some 171), .load 1 false, [.tmp 170], (some (169, false))⟩,
                ⟨(some 172), .faddr 2, [.tmp 6], (some (169, false))⟩,
                ⟨(some 173), .load 1 false, [.tmp 172], (some (169, false))⟩,
                ⟨(some 174), .cmp .neq, [.tmp 171, .tmp 173], (some (169, false))⟩,
                ⟨(some 175), .pick, [.tmp 169, .const (.bool true), .tmp 174], (some (159, true))⟩,
                ⟨(some 176), .pick, [.tmp 159, .tmp 175, .const (.bool false)], (some (155, false))⟩,
                ⟨(some 177), .pick, [.tmp 155, .const (.bool true), .tmp 176], none⟩,
                ⟨(some 178), .mov, [.tmp 177], none⟩,
                ⟨(some 179), .faddr 0, [.tmp 6], (some (178, false))⟩,
                ⟨(some 180), .load 1 false, [.tmp 179], (some (178, false))⟩,
                ⟨(some 181), .cmp .neq, [.tmp 180, .const (.int .i64 1)], (some (178, false))⟩,
                ⟨(some 182), .mov, [.tmp 181], (some (178, false))⟩,
                ⟨(some 183), .mov, [.tmp 12], (some (182, true))⟩,
                ⟨(some 184), .cmp .neq, [.tmp 183, .const (.int .i64 1)], (some (182, true))⟩,
                ⟨(some 185), .mov, [.tmp 184], (some (182, true))⟩,
                ⟨(some 186), .faddr 2, [.tmp 11], (some (185, false))⟩,
                ⟨(some 187), .load 1 false, [.tmp 186], (some (185, false))⟩,
                ⟨(some 188), .faddr 2, [.tmp 10], (some (185, false))⟩,
                ⟨(some 189), .load 1 false, [.tmp 188], (some (185, false))⟩,
                ⟨(some 190), .cmp .neq, [.tmp 187, .tmp 189], (some (185, false))⟩,
                ⟨(some 191), .pick, [.tmp 185, .const (.bool true), .tmp 190], (some (182, true))⟩,
                ⟨(some 192), .pick, [.tmp 182, .tmp 191, .const (.bool false)], (some (178, false))⟩,
                ⟨(some 193), .pick, [.tmp 178, .const (.bool true), .tmp 192], none⟩] false)
              (.cond (.tmp 193)
                (.seq (.ops [
                  ⟨(some 4), .mov, [.const (.bool false)], none⟩] false)
                .ret)
                .skip))
              (.seq (.ops [
                ⟨(some 194), .faddr 3, [.tmp 11], none⟩,
                ⟨(some 195), .load 1 false, [.tmp 194], none⟩,
                ⟨(some 196), .cmp .eql, [.tmp 195, .const (.int .i64 4)], none⟩,
                ⟨(some 197), .mov, [.tmp 196], none⟩,
                ⟨(some 198), .faddr 2, [.tmp 11], (some (197, true))⟩,
                ⟨(some 199), .load 1 false, [.tmp 198], (some (197, true))⟩,
                ⟨(some 200), .cmp .eql, [.tmp 199, .const (.int .i64 0)], (some (197, true))⟩,
                ⟨(some 201), .pick, [.tmp 197, .tmp 200, .const (.bool false)], none⟩,
                ⟨(some 202), .mov, [.tmp 201], none⟩,
                ⟨(some 203), .faddr 0, [.tmp 6], (some (202, true))⟩,
                ⟨(some 204), .load 1 false, [.tmp 203], (some (202, true))⟩,
                ⟨(some 205), .cmp .neq, [.tmp 204, .const (.int .i64 1)], (some (202, true))⟩,
                ⟨(some 206), .pick, [.tmp 202, .tmp 205, .const (.bool false)], none⟩,
                ⟨(some 207), .mov, [.tmp 206], none⟩,
                ⟨(some 208), .faddr 4, [.tmp 11], (some (207, false))⟩,
                ⟨(some 209), .load 1 false, [.tmp 208], (some (207, false))⟩,
                ⟨(some 210), .cmp .neq, [.tmp 209, .const (.int .i64 0)], (some (207, false))⟩,
                ⟨(some 211), .faddr 3, [.tmp 11], (some (207, false))⟩,
                ⟨(some 212), .load 1 false, [.tmp 211], (some (207, false))⟩,
                ⟨(some 213), .cmp .geq, [.tmp 212, .const (.int .i64 2)], (some (207, false))⟩,
                ⟨(some 214), .mov, [.tmp 213], (some (207, false))⟩,
                ⟨(some 215), .faddr 3, [.tmp 11], (some (214, true))⟩,
                ⟨(some 216), .load 1 false, [.tmp 215], (some (214, true))⟩,
                ⟨(some 217), .cmp .leq, [.tmp 216, .const (.int .i64 4)], (some (214, true))⟩,
                ⟨(some 218), .pick, [.tmp 214, .tmp 217, .const (.bool false)], (some (207, false))⟩,
                ⟨(some 219), .eqb true, [.tmp 210, .tmp 218], (some (207, false))⟩,
                ⟨(some 220), .pick, [.tmp 207, .const (.bool true), .tmp 219], none⟩,
                ⟨(some 221), .mov, [.tmp 220], none⟩,
                ⟨(some 222), .faddr 4, [.tmp 10], (some (221, false))⟩,
                ⟨(some 223), .load 1 false, [.tmp 222], (some (221, false))⟩,
                ⟨(some 224), .cmp .neq, [.tmp 223, .const (.int .i64 0)], (some (221, false))⟩,
                ⟨(some 225), .mov, [.tmp 224], (some (221, false))⟩,
                ⟨(some 226), .faddr 4, [.tmp 11], (some (225, true))⟩,
                ⟨(some 227), .load 1 false, [.tmp 226], (some (225, true))⟩,
                ⟨(some 228), .cmp .neq, [.tmp 227, .const (.int .i64 0)], (some (225, true))⟩,
                ⟨(some 229), .pick, [.tmp 225, .tmp 228, .const (.bool false)], (some (221, false))⟩,
                ⟨(some 230), .mov, [.tmp 229], (some (221, false))⟩,
                ⟨(some 231), .faddr 4, [.tmp 10], (some (230, true))⟩,
                ⟨(some 232), .load 1 false, [.tmp 231], (some (230, true))⟩,
                ⟨(some 233), .faddr 4, [.tmp 11], (some (230, true))⟩,
                ⟨(some 234), .load 1 false, [.tmp 233], (some (230, true))⟩,
                ⟨(some 235), .cmp .neq, [.tmp 232, .tmp 234], (some (230, true))⟩,
                ⟨(some 236), .pick, [.tmp 230, .tmp 235, .const (.bool false)], (some (221, false))⟩,
                ⟨(some 237), .pick, [.tmp 221, .const (.bool true), .tmp 236], none⟩] false)
              (.cond (.tmp 237)
                (.seq (.ops [
                  ⟨(some 4), .mov, [.const (.bool false)], none⟩] false)
                .ret)
                .skip))))))))
            (.ops [
              ⟨(some 85), .mov, [.tmp 9], none⟩,
              ⟨(some 86), .bin .add .i64 false, [.tmp 85, .const (.int .i64 1)], none⟩,
              ⟨(some 9), .mov, [.tmp 86], none⟩] false))))))
        (.ops [
          ⟨(some 238), .mov, [.tmp 7], none⟩,
          ⟨(some 0), .mov, [.tmp 238], none⟩] false)))))))
      (.ops [
        ⟨(some 27), .mov, [.tmp 5], none⟩,
        ⟨(some 28), .bin .add .i64 false, [.tmp 27, .const (.int .i64 1)], none⟩,
        ⟨(some 5), .mov, [.tmp 28], none⟩] false))))))
  (.seq (.ops [
    ⟨(some 4), .mov, [.const (.bool true)], none⟩] false)
  .ret)))))⟩
theorem lawLow : lowF Try.prog { rps := [105, 106, 109, 110] } Try.f8 = some lawIr := by kernel_rfl
def lawS : Spec := spec (List Inc × List Opr) (fun p => [L 6 (p.1.map encI), L 4 (p.2.map encOp)]) (fun p => p.1.length ≤ 9223372036854775807) (fun _ => B true)
set_option maxHeartbeats 4000000 in
theorem lawV : fnV Try.prog lawIr lawS := by
  intro ⟨(l : List Inc), (ops : List Opr)⟩ (hl0 : l.length ≤ 9223372036854775807)
  have hlo : (ops.map encOp).length = ops.length := List.length_map ..
  show vc _ _ _ _ ⟨argEnv 0 [L 6 (l.map encI), L 4 (ops.map encOp)], [], 0⟩
  by_cases h0 : rightI l = 0
  · by_cases h80 : 80 < ops.length
    · repeat' ((conv => whnf); first | (refine ⟨fun h => ?_, fun h => ?_⟩ <;> try (exfalso; first | omega | exact absurd h (by decide) | exact h rfl | exact absurd (show true = false from h) (by decide) | exact absurd (show false = true from h) (by decide))) | (refine ⟨_, alive_h, (), trivial, leVs_of_eq rfl, .inl rfl, rfl, ?_⟩; show norm (B true) _) | (refine ⟨_, lright_h, l, hl0, leVs_of_eq rfl, .inl rfl, rfl, ?_⟩; show norm (B (decide (rightI l = 0))) _; rw [decide_eq_true h0]) | exact ⟨[], rfl, trivial, rfl⟩ | fail)
    repeat' ((conv => whnf); first | (refine ⟨fun h => ?_, fun h => ?_⟩ <;> try (exfalso; first | omega | exact absurd h (by decide) | exact h rfl | exact absurd (show true = false from h) (by decide) | exact absurd (show false = true from h) (by decide))) | (refine ⟨_, alive_h, (), trivial, leVs_of_eq rfl, .inl rfl, rfl, ?_⟩; show norm (B true) _) | (refine ⟨_, lright_h, l, hl0, leVs_of_eq rfl, .inl rfl, rfl, ?_⟩; show norm (B (decide (rightI l = 0))) _; rw [decide_eq_true h0]) | fail | fail)
    refine ⟨Nat × (List Inc), fun xq => ⟨[(0, L 6 ((xq.2).map encI)), (1, L 4 (ops.map encOp)), (5, I xq.1)], [], 0⟩, fun xq => xq.1 ≤ ops.length ∧ rightI xq.2 = 0, fun xq => ops.length - xq.1, ⟨(0, l), ?_, [], ⟨⟨rfl, rfl⟩, ⟨⟨rfl, rfl⟩, ⟨⟨rfl, rfl⟩, trivial⟩⟩⟩, trivial, rfl, rfl, rfl⟩, ?_⟩
    · (try dsimp only); exact ⟨Nat.zero_le _, h0⟩
    rintro ⟨i, q⟩ hk
    obtain ⟨hi, hq⟩ : i ≤ ops.length ∧ rightI q = 0 := hk
    (try dsimp only)
    by_cases hil : i < ops.length
    · obtain ⟨o, ho⟩ := getElem_some hil
      have hql := len_of hq
      have hlq : (q.map encI).length = q.length := List.length_map ..
      obtain ⟨⟨x, e⟩, hA⟩ : ∃ r, actF q o = r := ⟨_, rfl⟩
      by_cases he : e = 0
      · subst he
        have hxr := act_right hq hA
        have hlx : (x.map encI).length = x.length := List.length_map ..
        rcases act_ok hA with ⟨hk0, hx, _⟩ | ⟨hk0, k0, was, z, h1, h2, hx, hc⟩
        · have hxl : x.length = q.length + 1 := by rw [hx, List.length_append]; rfl
          repeat' ((conv => whnf); first | (refine ⟨fun h => ?_, fun h => ?_⟩ <;> try (exfalso; first | omega | exact absurd h (by decide) | exact h rfl | exact absurd (show true = false from h) (by decide) | exact absurd (show false = true from h) (by decide) | exact h ⟨rfl, rfl, rfl, rfl, rfl, rfl, trivial⟩)) | (refine ⟨by omega, fun r hrr => ?_⟩; first | ((have hre : r = encOp o := by (first | exact get_row hrr ho | fail)); subst hre)) | (refine ⟨_, act_h, (q, o), hql, leVs_of_eq rfl, .inl rfl, rfl, ?_⟩; show norm (resT (actF q o)) _; rw [hA]; show norm (.tup [L 6 (x.map encI), I 0]) _) | (refine And.intro (And.intro (by omega) (by omega)) ?_) | fail | fail)
          refine ⟨Nat, fun xq => ⟨[(0, L 6 (q.map encI)), (1, L 4 (ops.map encOp)), (5, I i), (6, .bp 0 0), (7, L 6 (x.map encI)), (9, I xq)], [(0, .box ((encOp o).map .c))], 1⟩, fun xq => xq ≤ x.length, fun xq => x.length - xq, ⟨0, ?_, [], ⟨⟨rfl, rfl⟩, ⟨⟨rfl, rfl⟩, ⟨⟨rfl, rfl⟩, ⟨⟨rfl, rfl⟩, ⟨⟨rfl, rfl⟩, ⟨⟨rfl, rfl⟩, trivial⟩⟩⟩⟩⟩⟩, ⟨⟨rfl, rfl, rfl⟩, trivial⟩, rfl, rfl, rfl⟩, ?_⟩
          · (try dsimp only); exact Nat.zero_le _
          rintro k hk
          obtain hk : k ≤ x.length := hk
          (try dsimp only)
          by_cases hkx : k < x.length
          · by_cases hkq : k < q.length
            · obtain ⟨w, hw⟩ := getElem_some hkq
              obtain ⟨y, hy⟩ : ∃ y, x[k]? = some y := getElem_some hkx
              have hyw : y = w := by
                rw [hx, List.getElem?_append_left hkq, hw] at hy; cases hy; rfl
              subst hyw
              repeat' ((conv => whnf); first | (refine ⟨fun h => ?_, fun h => ?_⟩ <;> try (exfalso; first | omega | exact absurd h (by decide) | exact h rfl | exact absurd (show true = false from h) (by decide) | exact absurd (show false = true from h) (by decide) | exact h ⟨rfl, rfl, rfl, rfl, rfl, rfl, trivial⟩)) | (refine ⟨by omega, fun r hrr => ?_⟩; first | ((have hre : r = encI y := by (first | exact get_row hrr hw | fail)); subst hre) | ((have hre : r = encI y := by (first | exact get_row hrr hy | fail)); subst hre)) | (refine And.intro (And.intro (by omega) (by omega)) ?_) | (refine ⟨k + 1, ⟨?_, by (try dsimp only); omega⟩, [], ⟨⟨rfl, rfl⟩, ⟨⟨rfl, rfl⟩, ⟨⟨rfl, rfl⟩, ⟨⟨rfl, rfl⟩, ⟨⟨rfl, rfl⟩, ⟨⟨rfl, rfl⟩, trivial⟩⟩⟩⟩⟩⟩, ⟨⟨rfl, rfl, rfl⟩, trivial⟩, rfl, rfl, rfl⟩; (try dsimp only); omega) | fail | fail)
            · have hkq' : k = q.length := by omega
              have hy : x[k]? = some ⟨o.id, o.n, 0, 1, 0, o.t⟩ := by rw [hx, hkq', List.getElem?_append_right (Nat.le_refl _), Nat.sub_self]; rfl
              repeat' ((conv => whnf); first | (refine ⟨fun h => ?_, fun h => ?_⟩ <;> try (exfalso; first | omega | exact absurd h (by decide) | exact h rfl | exact absurd (show true = false from h) (by decide) | exact absurd (show false = true from h) (by decide) | exact h ⟨rfl, rfl, rfl, rfl, rfl, rfl, trivial⟩)) | (refine ⟨by omega, fun r hrr => ?_⟩; first | ((have hre : r = encI ⟨o.id, o.n, 0, 1, 0, o.t⟩ := by (first | exact get_row hrr hy | fail)); subst hre)) | (refine And.intro (And.intro (by omega) (by omega)) ?_) | (refine ⟨k + 1, ⟨?_, by (try dsimp only); omega⟩, [], ⟨⟨rfl, rfl⟩, ⟨⟨rfl, rfl⟩, ⟨⟨rfl, rfl⟩, ⟨⟨rfl, rfl⟩, ⟨⟨rfl, rfl⟩, ⟨⟨rfl, rfl⟩, trivial⟩⟩⟩⟩⟩⟩, ⟨⟨rfl, rfl, rfl⟩, trivial⟩, rfl, rfl, rfl⟩; (try dsimp only); omega) | fail | fail)
          · repeat' ((conv => whnf); first | (refine ⟨fun h => ?_, fun h => ?_⟩ <;> try (exfalso; first | omega | exact absurd h (by decide) | exact h rfl | exact absurd (show true = false from h) (by decide) | exact absurd (show false = true from h) (by decide) | exact h ⟨rfl, rfl, rfl, rfl, rfl, rfl, trivial⟩)) | (refine ⟨(i + 1, x), ⟨?_, by (try dsimp only); omega⟩, [], ⟨⟨rfl, rfl⟩, ⟨⟨rfl, rfl⟩, ⟨⟨rfl, rfl⟩, trivial⟩⟩⟩, trivial, rfl, rfl, rfl⟩; (try dsimp only); exact ⟨by omega, hxr⟩) | (refine And.intro (And.intro (by omega) (by omega)) ?_) | fail | fail)
        · have hxl : x.length = q.length := by rw [hx, List.length_set]
          repeat' ((conv => whnf); first | (refine ⟨fun h => ?_, fun h => ?_⟩ <;> try (exfalso; first | omega | exact absurd h (by decide) | exact h rfl | exact absurd (show true = false from h) (by decide) | exact absurd (show false = true from h) (by decide) | exact h ⟨rfl, rfl, rfl, rfl, rfl, rfl, trivial⟩)) | (refine ⟨by omega, fun r hrr => ?_⟩; first | ((have hre : r = encOp o := by (first | exact get_row hrr ho | fail)); subst hre)) | (refine ⟨_, act_h, (q, o), hql, leVs_of_eq rfl, .inl rfl, rfl, ?_⟩; show norm (resT (actF q o)) _; rw [hA]; show norm (.tup [L 6 (x.map encI), I 0]) _) | (refine And.intro (And.intro (by omega) (by omega)) ?_) | fail | fail)
          refine ⟨Nat, fun xq => ⟨[(0, L 6 (q.map encI)), (1, L 4 (ops.map encOp)), (5, I i), (6, .bp 0 0), (7, L 6 (x.map encI)), (9, I xq)], [(0, .box ((encOp o).map .c))], 1⟩, fun xq => xq ≤ x.length, fun xq => x.length - xq, ⟨0, ?_, [], ⟨⟨rfl, rfl⟩, ⟨⟨rfl, rfl⟩, ⟨⟨rfl, rfl⟩, ⟨⟨rfl, rfl⟩, ⟨⟨rfl, rfl⟩, ⟨⟨rfl, rfl⟩, trivial⟩⟩⟩⟩⟩⟩, ⟨⟨rfl, rfl, rfl⟩, trivial⟩, rfl, rfl, rfl⟩, ?_⟩
          · (try dsimp only); exact Nat.zero_le _
          rintro k hk
          obtain hk : k ≤ x.length := hk
          (try dsimp only)
          by_cases hkx : k < x.length
          · obtain ⟨w, hw⟩ := getElem_some (show k < q.length by omega)
            obtain ⟨y, hy⟩ : ∃ y, x[k]? = some y := getElem_some hkx
            by_cases hkk : k = k0
            · subst hkk
              have hww : w = was := by rw [h1] at hw; cases hw; rfl
              have hyz : y = z := by rw [hx, List.getElem?_set_self (by omega)] at hy; cases hy; rfl
              subst hww hyz
              obtain ⟨hi1, _, hf1, _⟩ := ic_of hq hw
              obtain ⟨hi2, _, hf2, _⟩ := ic_of hxr hy
              obtain ⟨⟨⟨c1, c2⟩, c3, c4, c5⟩, hc⟩ := hc
              unfold incP at hi1 hi2
              unfold freeP at hf1 hf2
              rcases hc with ⟨b0, b1, b2, b3, b4, b5⟩ | ⟨b0, b1, b2, b3, b4, b5, b6⟩ | ⟨b0, bt, ⟨b1, b2, b3⟩ | ⟨b1, b2, b3, b4⟩ | ⟨b1, b2, b3⟩⟩
              · repeat' ((conv => whnf); first | (refine ⟨fun h => ?_, fun h => ?_⟩ <;> try (exfalso; first | omega | exact absurd h (by decide) | exact h rfl | exact absurd (show true = false from h) (by decide) | exact absurd (show false = true from h) (by decide) | exact h ⟨rfl, rfl, rfl, rfl, rfl, rfl, trivial⟩)) | (refine ⟨by omega, fun r hrr => ?_⟩; first | ((have hre : r = encI w := by (first | exact get_row hrr hw | fail)); subst hre) | ((have hre : r = encI y := by (first | exact get_row hrr hy | fail)); subst hre)) | (refine And.intro (And.intro (by omega) (by omega)) ?_) | (refine ⟨k + 1, ⟨?_, by (try dsimp only); omega⟩, [], ⟨⟨rfl, rfl⟩, ⟨⟨rfl, rfl⟩, ⟨⟨rfl, rfl⟩, ⟨⟨rfl, rfl⟩, ⟨⟨rfl, rfl⟩, ⟨⟨rfl, rfl⟩, trivial⟩⟩⟩⟩⟩⟩, ⟨⟨rfl, rfl, rfl⟩, trivial⟩, rfl, rfl, rfl⟩; (try dsimp only); omega) | fail | fail)
              · repeat' ((conv => whnf); first | (refine ⟨fun h => ?_, fun h => ?_⟩ <;> try (exfalso; first | omega | exact absurd h (by decide) | exact h rfl | exact absurd (show true = false from h) (by decide) | exact absurd (show false = true from h) (by decide) | exact h ⟨rfl, rfl, rfl, rfl, rfl, rfl, trivial⟩)) | (refine ⟨by omega, fun r hrr => ?_⟩; first | ((have hre : r = encI w := by (first | exact get_row hrr hw | fail)); subst hre) | ((have hre : r = encI y := by (first | exact get_row hrr hy | fail)); subst hre)) | (refine And.intro (And.intro (by omega) (by omega)) ?_) | (refine ⟨k + 1, ⟨?_, by (try dsimp only); omega⟩, [], ⟨⟨rfl, rfl⟩, ⟨⟨rfl, rfl⟩, ⟨⟨rfl, rfl⟩, ⟨⟨rfl, rfl⟩, ⟨⟨rfl, rfl⟩, ⟨⟨rfl, rfl⟩, trivial⟩⟩⟩⟩⟩⟩, ⟨⟨rfl, rfl, rfl⟩, trivial⟩, rfl, rfl, rfl⟩; (try dsimp only); omega) | fail | fail)
              · repeat' ((conv => whnf); first | (refine ⟨fun h => ?_, fun h => ?_⟩ <;> try (exfalso; first | omega | exact absurd h (by decide) | exact h rfl | exact absurd (show true = false from h) (by decide) | exact absurd (show false = true from h) (by decide) | exact h ⟨rfl, rfl, rfl, rfl, rfl, rfl, trivial⟩)) | (refine ⟨by omega, fun r hrr => ?_⟩; first | ((have hre : r = encI w := by (first | exact get_row hrr hw | fail)); subst hre) | ((have hre : r = encI y := by (first | exact get_row hrr hy | fail)); subst hre)) | (refine And.intro (And.intro (by omega) (by omega)) ?_) | (refine ⟨k + 1, ⟨?_, by (try dsimp only); omega⟩, [], ⟨⟨rfl, rfl⟩, ⟨⟨rfl, rfl⟩, ⟨⟨rfl, rfl⟩, ⟨⟨rfl, rfl⟩, ⟨⟨rfl, rfl⟩, ⟨⟨rfl, rfl⟩, trivial⟩⟩⟩⟩⟩⟩, ⟨⟨rfl, rfl, rfl⟩, trivial⟩, rfl, rfl, rfl⟩; (try dsimp only); omega) | fail | fail)
              · repeat' ((conv => whnf); first | (refine ⟨fun h => ?_, fun h => ?_⟩ <;> try (exfalso; first | omega | exact absurd h (by decide) | exact h rfl | exact absurd (show true = false from h) (by decide) | exact absurd (show false = true from h) (by decide) | exact h ⟨rfl, rfl, rfl, rfl, rfl, rfl, trivial⟩)) | (refine ⟨by omega, fun r hrr => ?_⟩; first | ((have hre : r = encI w := by (first | exact get_row hrr hw | fail)); subst hre) | ((have hre : r = encI y := by (first | exact get_row hrr hy | fail)); subst hre)) | (refine And.intro (And.intro (by omega) (by omega)) ?_) | (refine ⟨k + 1, ⟨?_, by (try dsimp only); omega⟩, [], ⟨⟨rfl, rfl⟩, ⟨⟨rfl, rfl⟩, ⟨⟨rfl, rfl⟩, ⟨⟨rfl, rfl⟩, ⟨⟨rfl, rfl⟩, ⟨⟨rfl, rfl⟩, trivial⟩⟩⟩⟩⟩⟩, ⟨⟨rfl, rfl, rfl⟩, trivial⟩, rfl, rfl, rfl⟩; (try dsimp only); omega) | fail | fail)
              · repeat' ((conv => whnf); first | (refine ⟨fun h => ?_, fun h => ?_⟩ <;> try (exfalso; first | omega | exact absurd h (by decide) | exact h rfl | exact absurd (show true = false from h) (by decide) | exact absurd (show false = true from h) (by decide) | exact h ⟨rfl, rfl, rfl, rfl, rfl, rfl, trivial⟩)) | (refine ⟨by omega, fun r hrr => ?_⟩; first | ((have hre : r = encI w := by (first | exact get_row hrr hw | fail)); subst hre) | ((have hre : r = encI y := by (first | exact get_row hrr hy | fail)); subst hre)) | (refine And.intro (And.intro (by omega) (by omega)) ?_) | (refine ⟨k + 1, ⟨?_, by (try dsimp only); omega⟩, [], ⟨⟨rfl, rfl⟩, ⟨⟨rfl, rfl⟩, ⟨⟨rfl, rfl⟩, ⟨⟨rfl, rfl⟩, ⟨⟨rfl, rfl⟩, ⟨⟨rfl, rfl⟩, trivial⟩⟩⟩⟩⟩⟩, ⟨⟨rfl, rfl, rfl⟩, trivial⟩, rfl, rfl, rfl⟩; (try dsimp only); omega) | fail | fail)
            · have hyw : y = w := by rw [hx, List.getElem?_set_ne (fun e => hkk e.symm), hw] at hy; cases hy; rfl
              have hne : w.id ≠ o.id := by
                rw [← h2]
                rcases Nat.lt_or_ge k k0 with hlt | hge
                · exact (((right_iff q).1 hq).2.2 k k0 was w hlt hw h1).1
                · exact fun e => (((right_iff q).1 hq).2.2 k0 k w was (by omega) h1 hw).1 e.symm
              subst hyw
              repeat' ((conv => whnf); first | (refine ⟨fun h => ?_, fun h => ?_⟩ <;> try (exfalso; first | omega | exact absurd h (by decide) | exact h rfl | exact absurd (show true = false from h) (by decide) | exact absurd (show false = true from h) (by decide) | exact h ⟨rfl, rfl, rfl, rfl, rfl, rfl, trivial⟩)) | (refine ⟨by omega, fun r hrr => ?_⟩; first | ((have hre : r = encI y := by (first | exact get_row hrr hw | fail)); subst hre) | ((have hre : r = encI y := by (first | exact get_row hrr hy | fail)); subst hre)) | (refine And.intro (And.intro (by omega) (by omega)) ?_) | (refine ⟨k + 1, ⟨?_, by (try dsimp only); omega⟩, [], ⟨⟨rfl, rfl⟩, ⟨⟨rfl, rfl⟩, ⟨⟨rfl, rfl⟩, ⟨⟨rfl, rfl⟩, ⟨⟨rfl, rfl⟩, ⟨⟨rfl, rfl⟩, trivial⟩⟩⟩⟩⟩⟩, ⟨⟨rfl, rfl, rfl⟩, trivial⟩, rfl, rfl, rfl⟩; (try dsimp only); omega) | fail | fail)
          · repeat' ((conv => whnf); first | (refine ⟨fun h => ?_, fun h => ?_⟩ <;> try (exfalso; first | omega | exact absurd h (by decide) | exact h rfl | exact absurd (show true = false from h) (by decide) | exact absurd (show false = true from h) (by decide) | exact h ⟨rfl, rfl, rfl, rfl, rfl, rfl, trivial⟩)) | (refine ⟨(i + 1, x), ⟨?_, by (try dsimp only); omega⟩, [], ⟨⟨rfl, rfl⟩, ⟨⟨rfl, rfl⟩, ⟨⟨rfl, rfl⟩, trivial⟩⟩⟩, trivial, rfl, rfl, rfl⟩; (try dsimp only); exact ⟨by omega, hxr⟩) | (refine And.intro (And.intro (by omega) (by omega)) ?_) | fail | fail)
      · have hxn : x = [] := by have := act_nil (l := q) (o := o) (by rw [hA]; exact he); rw [hA] at this; exact this
        subst hxn
        repeat' ((conv => whnf); first | (refine ⟨fun h => ?_, fun h => ?_⟩ <;> try (exfalso; first | omega | exact absurd h (by decide) | exact h rfl | exact absurd (show true = false from h) (by decide) | exact absurd (show false = true from h) (by decide) | exact h ⟨rfl, rfl, rfl, rfl, rfl, rfl, trivial⟩)) | (refine ⟨by omega, fun r hrr => ?_⟩; first | ((have hre : r = encOp o := by (first | exact get_row hrr ho | fail)); subst hre)) | (refine ⟨_, act_h, (q, o), hql, leVs_of_eq rfl, .inl rfl, rfl, ?_⟩; show norm (resT (actF q o)) _; rw [hA]; show norm (.tup [L 6 (([] : List Inc).map encI), I e]) _) | (refine ⟨(i + 1, q), ⟨?_, by (try dsimp only); omega⟩, [], ⟨⟨rfl, rfl⟩, ⟨⟨rfl, rfl⟩, ⟨⟨rfl, rfl⟩, trivial⟩⟩⟩, trivial, rfl, rfl, rfl⟩; (try dsimp only); exact ⟨by omega, hq⟩) | (refine And.intro (And.intro (by omega) (by omega)) ?_) | fail | fail)
    · repeat' ((conv => whnf); first | (refine ⟨fun h => ?_, fun h => ?_⟩ <;> try (exfalso; first | omega | exact absurd h (by decide) | exact h rfl | exact absurd (show true = false from h) (by decide) | exact absurd (show false = true from h) (by decide) | exact h ⟨rfl, rfl, rfl, rfl, rfl, rfl, trivial⟩)) | exact ⟨[], rfl, trivial, rfl⟩ | fail | fail)
  · repeat' ((conv => whnf); first | (refine ⟨fun h => ?_, fun h => ?_⟩ <;> try (exfalso; first | omega | exact absurd h (by decide) | exact h rfl | exact absurd (show true = false from h) (by decide) | exact absurd (show false = true from h) (by decide))) | (refine ⟨_, alive_h, (), trivial, leVs_of_eq rfl, .inl rfl, rfl, ?_⟩; show norm (B true) _) | (refine ⟨_, lright_h, l, hl0, leVs_of_eq rfl, .inl rfl, rfl, ?_⟩; show norm (B (decide (rightI l = 0))) _; rw [decide_eq_false h0]) | exact ⟨[], rfl, trivial, rfl⟩ | fail)
theorem law_h : Holds Try.prog 8 lawS := holds_of mix Try.func8 lawLow (fun _ => rfl) lawV

/-! ### THE ROW's STEP -/
theorem own : ownKnob Try.prog.godebug = none := by kernel_rfl
theorem laidOut : laidOutB Try.prog = true := by kernel_rfl
set_option maxRecDepth 100000 in
theorem lifted (os : Os) (started : os.Started) (H : Type) (enc : TypeId × Value → H) :
    ReturnsInHanded {} Try.checked os 8 .any (Rows.incidentLifeSpec.pre6 enc Try.prog Try.f8 Rows.incidentLifeRow.domain false) (Rows.incidentLifeSpec.post enc Try.prog Try.f8 false true false false) := by
  refine returnsInHanded_of_change (C := Try.checked) own started (by kernel_rfl) Try.func8
    (ChangeSpec.witness6 (enc := enc) (C := Try.checked) false ⟨#[], #[.slice none 0 0, .slice none 0 0], []⟩ 8 (by kernel_rfl) (by kernel_rfl) (by kernel_rfl) (by kernel_rfl)) ?_
  intro W base args ds gs before hval0 hW hcnd _
  have hval : ∀ (j : Nat) t v, Try.f8.params[j]? = some t → args[j]? = some v → Value.okWide Try.prog W .any base t v := hval0
  have hW' := hW
  obtain ⟨p, q, hA0, hV, rfl, hfz, hnd⟩ := hW
  have hA : DataW.TrodAll enc Try.prog W 0 (fun _ => true) true Try.f8.params.toList args.toList ds p := hA0
  rw [Try.params8] at hA hval
  obtain ⟨v0, vs0, d0, ds0, p0, q0, hargs, rfl, rfl, h0, r0⟩ := trodAll_cons hA
  obtain ⟨v1, vs1, d1, ds1, p1, q1, rfl, rfl, rfl, h1, r1⟩ := trodAll_cons r0
  obtain ⟨rfl, rfl, rfl⟩ := trodAll_nil r1
  obtain rfl : args = #[v0, v1] := by cases args; simp_all
  obtain ⟨rfl, rfl⟩ := trodVars_none hV
  have lt0 : ∀ x ∈ p0, x.block < W.heap.size := by obtain ⟨m, hm⟩ := h0; exact DataW.trod_lt m _ _ _ hm
  obtain ⟨z0, w0, x0⟩ := openLI (hval 0 22 v0 rfl rfl) h0
  have lt1 : ∀ x ∈ p1, x.block < W.heap.size := by obtain ⟨m, hm⟩ := h1; exact DataW.trod_lt m _ _ _ hm
  obtain ⟨z1, w1, x1⟩ := openOs (hval 1 50 v1 rfl rfl) h1
  clear hA0 hval0
  refine Calls.mono (law_calls law_h (z0, z1) w0.1 rfl (vs := [v0, v1]) (replist_mk x0 (replist_mk x1 replist_mk0))) fun e W' ⟨he, bel⟩ => ?_
  subst he
  exact ⟨_, rfl, _, _, _, [], _, [], hW', trodAll_mk1 (shut_bool Try.underlying4 _), (trodAll_cons_mk (Below.trod laidOut (by kernel_rfl) (of_decide_eq_true (by kernel_rfl)) h0 bel lt0) (trodAll_cons_mk (Below.trod laidOut (by kernel_rfl) (of_decide_eq_true (by kernel_rfl)) h1 bel lt1) trodAll_mk0)), rfl, bel.frame _, fun h => by cases h⟩

theorem over : Rows.incidentLifeRow.holds Try.pinned (OpenSpec.ofChange Rows.incidentLifeSpec) :=
  OpenClaim.holds_of_wide 8 Try.f8 rfl rfl rfl rfl rfl rfl rfl ⟨rfl, rfl, rfl, rfl, rfl⟩ rfl rfl rfl rfl rfl (by kernel_rfl) Try.func8 (by kernel_rfl)
    (of_decide_eq_true (by kernel_rfl)) (by unfold Func.isWrapper; first | (rw [if_pos (by decide +kernel)]; kernel_rfl) | (rw [if_neg (by decide +kernel)]; exact ⟨rfl, rfl⟩))
    (fun os started H enc _ => lifted os started H enc)

theorem proved : Rows.IncidentLifeSaid := over
end Go.Proofs.Ytoeichkblclfaaa.lawLife
