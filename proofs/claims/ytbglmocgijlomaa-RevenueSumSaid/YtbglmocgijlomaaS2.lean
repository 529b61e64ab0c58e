/- Split, printed for this seat. No statement in sight. -/
import Derived.Test.YtbglmocgijlomaaS1
/- Split: slices.symMerge. -/
namespace Go.Proofs.Ytbglmocgijlomaa
open Go.RowKit

/-- What a search below u, and from v on, has found: the keys ahead of u are greater than k, those from v on are not. -/
def LoL (f : Int → Int) (B : List Int) (x : Int) (u : Nat) : Prop := u = 0 ∨ ∃ y, B[u - 1]? = some y ∧ f x < f y
def HiL (f : Int → Int) (B : List Int) (x : Int) (v : Nat) : Prop := v = B.length ∨ ∃ y, B[v]? = some y ∧ f y ≤ f x
def fnAt (P : Program) (f : IFn) (S : GSpec) (x : S.X) : Prop := vc P (S.ins x).length f.body (fun e s => match e with
    | .normal => finG f.res s (S.ins x).length (S.res x) (S.fin x) (S.obs x)
    | .exit _ => False
    | .ret => finG f.res s (S.ins x).length (S.res x) (S.fin x) (S.obs x)) ⟨argEnv 0 (S.args x), idxFrom 0 (S.ins x), (S.ins x).length⟩
theorem rowE {l l' : List Int} (h : l = l') : some (Ob.row 3 1 (l.map e1)) = some (Ob.row 3 1 (l'.map e1)) := by rw [h]
structure SymX where
  rs : List Int
  P : List Int
  A : List Int
  B : List Int
  S : List Int
  R : List Int
def symS (N : Nat) : GSpec := ⟨SymX, fun x => [.row 3 1 ((x.P ++ (x.A ++ (x.B ++ x.S))).map e1)], fun x => [.osl 0, I x.P.length, I (x.P.length + x.A.length), I (x.P.length + x.A.length + x.B.length), .fn 52 [.rp [.sl 1 (x.rs.map e1)]]],
  fun x => ((∀ y ∈ x.A ++ x.B, 0 ≤ y ∧ y < x.rs.length) ∧ x.rs.length ≤ 1000000) ∧ (x.A.Pairwise (bef (keyR x.rs)) ∧ x.B.Pairwise (bef (keyR x.rs)) ∧ (∀ y ∈ x.A, ∀ z ∈ x.B, stb (keyR x.rs) y z) ∧ SortedOf (keyR x.rs) (x.A ++ x.B) x.R) ∧ (0 < x.A.length ∧ 0 < x.B.length ∧ x.A.length + x.B.length ≤ N) ∧ (x.P ++ (x.A ++ (x.B ++ x.S))).length ≤ 1000000, fun _ => .tup [], fun x => [.row 3 1 ((x.P ++ (x.R ++ x.S)).map e1)], fun _ => []⟩

/-! slices.symMergeCmpFunc[int] -/
def symIr : IFn := ⟨220, [],
  (.seq (.seq (.ops [
    ⟨(some 25), .mov, [.tmp 2], none⟩,
    ⟨(some 26), .mov, [.tmp 1], none⟩,
    ⟨(some 27), .bin .sub .i64 false, [.tmp 25, .tmp 26], none⟩,
    ⟨(some 28), .cmp .eql, [.tmp 27, .const (.int .i64 1)], none⟩] false)
  (.cond (.tmp 28)
    (.seq (.ops [
      ⟨(some 29), .mov, [.tmp 2], none⟩,
      ⟨(some 10), .mov, [.tmp 29], none⟩] false)
    (.seq (.ops [
      ⟨(some 30), .mov, [.tmp 3], none⟩,
      ⟨(some 11), .mov, [.tmp 30], none⟩] false)
    (.seq (.block 0
      (.loop
        (.seq (.seq (.ops [
          ⟨(some 31), .mov, [.tmp 10], none⟩,
          ⟨(some 32), .mov, [.tmp 11], none⟩,
          ⟨(some 33), .cmp .lss, [.tmp 31, .tmp 32], none⟩] false)
        (.cond (.tmp 33)
          .skip
          (.exit 0)))
        (.block 1
          (.seq (.ops [
            ⟨(some 34), .mov, [.tmp 10], none⟩,
            ⟨(some 35), .mov, [.tmp 11], none⟩,
            ⟨(some 36), .bin .add .i64 false, [.tmp 34, .tmp 35], none⟩,
            ⟨(some 37), .conv .u64, [.tmp 36], none⟩,
            ⟨(some 38), .bin .shr .u64 false, [.tmp 37, .const (.int .u64 1)], none⟩,
            ⟨(some 39), .conv .i64, [.tmp 38], none⟩,
            ⟨(some 12), .mov, [.tmp 39], none⟩] false)
          (.seq (.ops [
            ⟨(some 40), .mov, [.tmp 4], none⟩,
            ⟨(some 41), .mov, [.tmp 0], none⟩,
            ⟨(some 42), .mov, [.tmp 12], none⟩,
            ⟨(some 43), .idx 1, [.tmp 41, .tmp 42], none⟩,
            ⟨(some 44), .load 1 false, [.tmp 43], none⟩,
            ⟨(some 45), .mov, [.tmp 0], none⟩,
            ⟨(some 46), .mov, [.tmp 1], none⟩,
            ⟨(some 47), .idx 1, [.tmp 45, .tmp 46], none⟩,
            ⟨(some 48), .load 1 false, [.tmp 47], none⟩,
            ⟨(some 49), .callv, [.tmp 40, .tmp 44, .tmp 48], none⟩,
            ⟨(some 50), .cmp .lss, [.tmp 49, .const (.int .i64 0)], none⟩] true)
          (.cond (.tmp 50)
            (.ops [
              ⟨(some 51), .mov, [.tmp 12], none⟩,
              ⟨(some 52), .bin .add .i64 false, [.tmp 51, .const (.int .i64 1)], none⟩,
              ⟨(some 10), .mov, [.tmp 52], none⟩] false)
            (.ops [
              ⟨(some 53), .mov, [.tmp 12], none⟩,
              ⟨(some 11), .mov, [.tmp 53], none⟩] false))))))))
    (.seq (.seq (.ops [
      ⟨(some 54), .mov, [.tmp 1], none⟩,
      ⟨(some 13), .mov, [.tmp 54], none⟩] false)
    (.block 2
      (.loop
        (.seq (.seq (.ops [
          ⟨(some 55), .mov, [.tmp 13], none⟩,
          ⟨(some 56), .mov, [.tmp 10], none⟩,
          ⟨(some 57), .bin .sub .i64 false, [.tmp 56, .const (.int .i64 1)], none⟩,
          ⟨(some 58), .cmp .lss, [.tmp 55, .tmp 57], none⟩] false)
        (.cond (.tmp 58)
          .skip
          (.exit 2)))
        (.seq (.block 3
          (.ops [
            ⟨(some 61), .mov, [.tmp 0], none⟩,
            ⟨(some 62), .mov, [.tmp 13], none⟩,
            ⟨(some 63), .mov, [.tmp 0], none⟩,
            ⟨(some 64), .mov, [.tmp 13], none⟩,
            ⟨(some 65), .bin .add .i64 false, [.tmp 64, .const (.int .i64 1)], none⟩,
            ⟨(some 66), .mov, [.tmp 0], none⟩,
            ⟨(some 67), .mov, [.tmp 13], none⟩,
            ⟨(some 68), .bin .add .i64 false, [.tmp 67, .const (.int .i64 1)], none⟩,
            ⟨(some 69), .idx 1, [.tmp 66, .tmp 68], none⟩,
            ⟨(some 70), .load 1 false, [.tmp 69], none⟩,
            ⟨(some 71), .mov, [.tmp 0], none⟩,
            ⟨(some 72), .mov, [.tmp 13], none⟩,
            ⟨(some 73), .idx 1, [.tmp 71, .tmp 72], none⟩,
            ⟨(some 74), .load 1 false, [.tmp 73], none⟩,
            ⟨(some 75), .idx 1, [.tmp 61, .tmp 62], none⟩,
            ⟨none, .store 1, [.tmp 75, .tmp 70], none⟩,
            ⟨(some 76), .idx 1, [.tmp 63, .tmp 65], none⟩,
            ⟨none, .store 1, [.tmp 76, .tmp 74], none⟩] true))
        (.ops [
          ⟨(some 59), .mov, [.tmp 13], none⟩,
          ⟨(some 60), .bin .add .i64 false, [.tmp 59, .const (.int .i64 1)], none⟩,
          ⟨(some 13), .mov, [.tmp 60], none⟩] false))))))
    .ret))))
    .skip))
  (.seq (.seq (.ops [
    ⟨(some 77), .mov, [.tmp 3], none⟩,
    ⟨(some 78), .mov, [.tmp 2], none⟩,
    ⟨(some 79), .bin .sub .i64 false, [.tmp 77, .tmp 78], none⟩,
    ⟨(some 80), .cmp .eql, [.tmp 79, .const (.int .i64 1)], none⟩] false)
  (.cond (.tmp 80)
    (.seq (.ops [
      ⟨(some 81), .mov, [.tmp 1], none⟩,
      ⟨(some 14), .mov, [.tmp 81], none⟩] false)
    (.seq (.ops [
      ⟨(some 82), .mov, [.tmp 2], none⟩,
      ⟨(some 15), .mov, [.tmp 82], none⟩] false)
    (.seq (.block 4
      (.loop
        (.seq (.seq (.ops [
          ⟨(some 83), .mov, [.tmp 14], none⟩,
          ⟨(some 84), .mov, [.tmp 15], none⟩,
          ⟨(some 85), .cmp .lss, [.tmp 83, .tmp 84], none⟩] false)
        (.cond (.tmp 85)
          .skip
          (.exit 4)))
        (.block 5
          (.seq (.ops [
            ⟨(some 86), .mov, [.tmp 14], none⟩,
            ⟨(some 87), .mov, [.tmp 15], none⟩,
            ⟨(some 88), .bin .add .i64 false, [.tmp 86, .tmp 87], none⟩,
            ⟨(some 89), .conv .u64, [.tmp 88], none⟩,
            ⟨(some 90), .bin .shr .u64 false, [.tmp 89, .const (.int .u64 1)], none⟩,
            ⟨(some 91), .conv .i64, [.tmp 90], none⟩,
            ⟨(some 16), .mov, [.tmp 91], none⟩] false)
          (.seq (.ops [
            ⟨(some 92), .mov, [.tmp 4], none⟩,
            ⟨(some 93), .mov, [.tmp 0], none⟩,
            ⟨(some 94), .mov, [.tmp 2], none⟩,
            ⟨(some 95), .idx 1, [.tmp 93, .tmp 94], none⟩,
            ⟨(some 96), .load 1 false, [.tmp 95], none⟩,
            ⟨(some 97), .mov, [.tmp 0], none⟩,
            ⟨(some 98), .mov, [.tmp 16], none⟩,
            ⟨(some 99), .idx 1, [.tmp 97, .tmp 98], none⟩,
            ⟨(some 100), .load 1 false, [.tmp 99], none⟩,
            ⟨(some 101), .callv, [.tmp 92, .tmp 96, .tmp 100], none⟩,
            ⟨(some 102), .cmp .lss, [.tmp 101, .const (.int .i64 0)], none⟩,
            ⟨(some 103), .not, [.tmp 102], none⟩] true)
          (.cond (.tmp 103)
            (.ops [
              ⟨(some 104), .mov, [.tmp 16], none⟩,
              ⟨(some 105), .bin .add .i64 false, [.tmp 104, .const (.int .i64 1)], none⟩,
              ⟨(some 14), .mov, [.tmp 105], none⟩] false)
            (.ops [
              ⟨(some 106), .mov, [.tmp 16], none⟩,
              ⟨(some 15), .mov, [.tmp 106], none⟩] false))))))))
    (.seq (.seq (.ops [
      ⟨(some 107), .mov, [.tmp 2], none⟩,
      ⟨(some 17), .mov, [.tmp 107], none⟩] false)
    (.block 6
      (.loop
        (.seq (.seq (.ops [
          ⟨(some 108), .mov, [.tmp 17], none⟩,
          ⟨(some 109), .mov, [.tmp 14], none⟩,
          ⟨(some 110), .cmp .gtr, [.tmp 108, .tmp 109], none⟩] false)
        (.cond (.tmp 110)
          .skip
          (.exit 6)))
        (.seq (.block 7
          (.ops [
            ⟨(some 113), .mov, [.tmp 0], none⟩,
            ⟨(some 114), .mov, [.tmp 17], none⟩,
            ⟨(some 115), .mov, [.tmp 0], none⟩,
            ⟨(some 116), .mov, [.tmp 17], none⟩,
            ⟨(some 117), .bin .sub .i64 false, [.tmp 116, .const (.int .i64 1)], none⟩,
            ⟨(some 118), .mov, [.tmp 0], none⟩,
            ⟨(some 119), .mov, [.tmp 17], none⟩,
            ⟨(some 120), .bin .sub .i64 false, [.tmp 119, .const (.int .i64 1)], none⟩,
            ⟨(some 121), .idx 1, [.tmp 118, .tmp 120], none⟩,
            ⟨(some 122), .load 1 false, [.tmp 121], none⟩,
            ⟨(some 123), .mov, [.tmp 0], none⟩,
            ⟨(some 124), .mov, [.tmp 17], none⟩,
            ⟨(some 125), .idx 1, [.tmp 123, .tmp 124], none⟩,
            ⟨(some 126), .load 1 false, [.tmp 125], none⟩,
            ⟨(some 127), .idx 1, [.tmp 113, .tmp 114], none⟩,
            ⟨none, .store 1, [.tmp 127, .tmp 122], none⟩,
            ⟨(some 128), .idx 1, [.tmp 115, .tmp 117], none⟩,
            ⟨none, .store 1, [.tmp 128, .tmp 126], none⟩] true))
        (.ops [
          ⟨(some 111), .mov, [.tmp 17], none⟩,
          ⟨(some 112), .bin .sub .i64 false, [.tmp 111, .const (.int .i64 1)], none⟩,
          ⟨(some 17), .mov, [.tmp 112], none⟩] false))))))
    .ret))))
    .skip))
  (.seq (.ops [
    ⟨(some 129), .mov, [.tmp 1], none⟩,
    ⟨(some 130), .mov, [.tmp 3], none⟩,
    ⟨(some 131), .bin .add .i64 false, [.tmp 129, .tmp 130], none⟩,
    ⟨(some 132), .conv .u64, [.tmp 131], none⟩,
    ⟨(some 133), .bin .shr .u64 false, [.tmp 132, .const (.int .u64 1)], none⟩,
    ⟨(some 134), .conv .i64, [.tmp 133], none⟩,
    ⟨(some 18), .mov, [.tmp 134], none⟩] false)
  (.seq (.ops [
    ⟨(some 135), .mov, [.tmp 18], none⟩,
    ⟨(some 136), .mov, [.tmp 2], none⟩,
    ⟨(some 137), .bin .add .i64 false, [.tmp 135, .tmp 136], none⟩,
    ⟨(some 19), .mov, [.tmp 137], none⟩] false)
  (.seq (.ops [
    ⟨(some 20), .mov, [.const (.int .i64 0)], none⟩,
    ⟨(some 21), .mov, [.const (.int .i64 0)], none⟩] false)
  (.seq (.seq (.ops [
    ⟨(some 138), .mov, [.tmp 2], none⟩,
    ⟨(some 139), .mov, [.tmp 18], none⟩,
    ⟨(some 140), .cmp .gtr, [.tmp 138, .tmp 139], none⟩] false)
  (.cond (.tmp 140)
    (.seq (.ops [
      ⟨(some 141), .mov, [.tmp 19], none⟩,
      ⟨(some 142), .mov, [.tmp 3], none⟩,
      ⟨(some 143), .bin .sub .i64 false, [.tmp 141, .tmp 142], none⟩,
      ⟨(some 20), .mov, [.tmp 143], none⟩] false)
    (.ops [
      ⟨(some 144), .mov, [.tmp 18], none⟩,
      ⟨(some 21), .mov, [.tmp 144], none⟩] false))
    (.seq (.ops [
      ⟨(some 145), .mov, [.tmp 1], none⟩,
      ⟨(some 20), .mov, [.tmp 145], none⟩] false)
    (.ops [
      ⟨(some 146), .mov, [.tmp 2], none⟩,
      ⟨(some 21), .mov, [.tmp 146], none⟩] false))))
  (.seq (.ops [
    ⟨(some 147), .mov, [.tmp 19], none⟩,
    ⟨(some 148), .bin .sub .i64 false, [.tmp 147, .const (.int .i64 1)], none⟩,
    ⟨(some 22), .mov, [.tmp 148], none⟩] false)
  (.seq (.block 8
    (.loop
      (.seq (.seq (.ops [
        ⟨(some 149), .mov, [.tmp 20], none⟩,
        ⟨(some 150), .mov, [.tmp 21], none⟩,
        ⟨(some 151), .cmp .lss, [.tmp 149, .tmp 150], none⟩] false)
      (.cond (.tmp 151)
        .skip
        (.exit 8)))
      (.block 9
        (.seq (.ops [
          ⟨(some 152), .mov, [.tmp 20], none⟩,
          ⟨(some 153), .mov, [.tmp 21], none⟩,
          ⟨(some 154), .bin .add .i64 false, [.tmp 152, .tmp 153], none⟩,
          ⟨(some 155), .conv .u64, [.tmp 154], none⟩,
          ⟨(some 156), .bin .shr .u64 false, [.tmp 155, .const (.int .u64 1)], none⟩,
          ⟨(some 157), .conv .i64, [.tmp 156], none⟩,
          ⟨(some 23), .mov, [.tmp 157], none⟩] false)
        (.seq (.ops [
          ⟨(some 158), .mov, [.tmp 4], none⟩,
          ⟨(some 159), .mov, [.tmp 0], none⟩,
          ⟨(some 160), .mov, [.tmp 22], none⟩,
          ⟨(some 161), .mov, [.tmp 23], none⟩,
          ⟨(some 162), .bin .sub .i64 false, [.tmp 160, .tmp 161], none⟩,
          ⟨(some 163), .idx 1, [.tmp 159, .tmp 162], none⟩,
          ⟨(some 164), .load 1 false, [.tmp 163], none⟩,
          ⟨(some 165), .mov, [.tmp 0], none⟩,
          ⟨(some 166), .mov, [.tmp 23], none⟩,
          ⟨(some 167), .idx 1, [.tmp 165, .tmp 166], none⟩,
          ⟨(some 168), .load 1 false, [.tmp 167], none⟩,
          ⟨(some 169), .callv, [.tmp 158, .tmp 164, .tmp 168], none⟩,
          ⟨(some 170), .cmp .lss, [.tmp 169, .const (.int .i64 0)], none⟩,
          ⟨(some 171), .not, [.tmp 170], none⟩] true)
        (.cond (.tmp 171)
          (.ops [
            ⟨(some 172), .mov, [.tmp 23], none⟩,
            ⟨(some 173), .bin .add .i64 false, [.tmp 172, .const (.int .i64 1)], none⟩,
            ⟨(some 20), .mov, [.tmp 173], none⟩] false)
          (.ops [
            ⟨(some 174), .mov, [.tmp 23], none⟩,
            ⟨(some 21), .mov, [.tmp 174], none⟩] false))))))))
  (.seq (.ops [
    ⟨(some 175), .mov, [.tmp 19], none⟩,
    ⟨(some 176), .mov, [.tmp 20], none⟩,
    ⟨(some 177), .bin .sub .i64 false, [.tmp 175, .tmp 176], none⟩,
    ⟨(some 24), .mov, [.tmp 177], none⟩] false)
  (.seq (.seq (.ops [
    ⟨(some 178), .mov, [.tmp 20], none⟩,
    ⟨(some 179), .mov, [.tmp 2], none⟩,
    ⟨(some 180), .cmp .lss, [.tmp 178, .tmp 179], none⟩,
    ⟨(some 181), .mov, [.tmp 180], none⟩,
    ⟨(some 182), .mov, [.tmp 2], (some (181, true))⟩,
    ⟨(some 183), .mov, [.tmp 24], (some (181, true))⟩,
    ⟨(some 184), .cmp .lss, [.tmp 182, .tmp 183], (some (181, true))⟩,
    ⟨(some 185), .pick, [.tmp 181, .tmp 184, .const (.bool false)], none⟩] false)
  (.cond (.tmp 185)
    (.ops [
      ⟨(some 186), .mov, [.tmp 0], none⟩,
      ⟨(some 187), .mov, [.tmp 20], none⟩,
      ⟨(some 188), .mov, [.tmp 2], none⟩,
      ⟨(some 189), .mov, [.tmp 24], none⟩,
      ⟨(some 190), .mov, [.tmp 4], none⟩,
      ⟨(some 191), .callg 89, [.tmp 186, .tmp 187, .tmp 188, .tmp 189, .tmp 190], none⟩] false)
    .skip))
  (.seq (.seq (.ops [
    ⟨(some 192), .mov, [.tmp 1], none⟩,
    ⟨(some 193), .mov, [.tmp 20], none⟩,
    ⟨(some 194), .cmp .lss, [.tmp 192, .tmp 193], none⟩,
    ⟨(some 195), .mov, [.tmp 194], none⟩,
    ⟨(some 196), .mov, [.tmp 20], (some (195, true))⟩,
    ⟨(some 197), .mov, [.tmp 18], (some (195, true))⟩,
    ⟨(some 198), .cmp .lss, [.tmp 196, .tmp 197], (some (195, true))⟩,
    ⟨(some 199), .pick, [.tmp 195, .tmp 198, .const (.bool false)], none⟩] false)
  (.cond (.tmp 199)
    (.ops [
      ⟨(some 200), .mov, [.tmp 0], none⟩,
      ⟨(some 201), .mov, [.tmp 1], none⟩,
      ⟨(some 202), .mov, [.tmp 20], none⟩,
      ⟨(some 203), .mov, [.tmp 18], none⟩,
      ⟨(some 204), .mov, [.tmp 4], none⟩,
      ⟨(some 205), .callg 84, [.tmp 200, .tmp 201, .tmp 202, .tmp 203, .tmp 204], none⟩] false)
    .skip))
  (.seq (.ops [
    ⟨(some 206), .mov, [.tmp 18], none⟩,
    ⟨(some 207), .mov, [.tmp 24], none⟩,
    ⟨(some 208), .cmp .lss, [.tmp 206, .tmp 207], none⟩,
    ⟨(some 209), .mov, [.tmp 208], none⟩,
    ⟨(some 210), .mov, [.tmp 24], (some (209, true))⟩,
    ⟨(some 211), .mov, [.tmp 3], (some (209, true))⟩,
    ⟨(some 212), .cmp .lss, [.tmp 210, .tmp 211], (some (209, true))⟩,
    ⟨(some 213), .pick, [.tmp 209, .tmp 212, .const (.bool false)], none⟩] false)
  (.cond (.tmp 213)
    (.ops [
      ⟨(some 214), .mov, [.tmp 0], none⟩,
      ⟨(some 215), .mov, [.tmp 18], none⟩,
      ⟨(some 216), .mov, [.tmp 24], none⟩,
      ⟨(some 217), .mov, [.tmp 3], none⟩,
      ⟨(some 218), .mov, [.tmp 4], none⟩,
      ⟨(some 219), .callg 84, [.tmp 214, .tmp 215, .tmp 216, .tmp 217, .tmp 218], none⟩] false)
    .skip)))))))))))))⟩
theorem symLow : lowF Try.prog { gvs := [191, 205, 219] } Try.f84 = some symIr := by kernel_rfl

set_option maxRecDepth 20000 in
/-- A single number ahead. -/
theorem symV1 (N : Nat) (rs P : List Int) (x : Int) (B S R : List Int) (hp : (symS N).pre ⟨rs, P, [x], B, S, R⟩) : fnAt Try.prog symIr (symS N) ⟨rs, P, [x], B, S, R⟩ := by
  obtain ⟨⟨hrg, hrs⟩, ⟨_, hB, hs, hR⟩, ⟨_, hB0, hN⟩, hlen⟩ : ((∀ y ∈ [x] ++ B, 0 ≤ y ∧ y < rs.length) ∧ rs.length ≤ 1000000) ∧ ([x].Pairwise (bef (keyR rs)) ∧ B.Pairwise (bef (keyR rs)) ∧ (∀ y ∈ [x], ∀ z ∈ B, stb (keyR rs) y z) ∧ SortedOf (keyR rs) ([x] ++ B) R) ∧ (0 < [x].length ∧ 0 < B.length ∧ [x].length + B.length ≤ N) ∧ (P ++ ([x] ++ (B ++ S))).length ≤ 1000000 := hp
  have hx1 : ([x] : List Int).length = 1 := rfl
  have hxr : 0 ≤ x ∧ x < rs.length := hrg x (by simp)
  simp only [List.length_append, hx1] at hlen
  show vc _ _ _ _ ⟨argEnv 0 [.osl 0, I P.length, I (P.length + [x].length), I (P.length + [x].length + B.length), .fn 52 [.rp [.sl 1 (rs.map e1)]]], idxFrom 0 [.row 3 1 ((P ++ ([x] ++ (B ++ S))).map e1)], 1⟩
  have hl1 : (((P ++ ([x] ++ (B ++ S))).map e1).length : Int) = P.length + 1 + B.length + S.length := by simp only [List.length_map, List.length_append, hx1]; omega
  have ga : ((P ++ ([x] ++ (B ++ S))).map e1)[(P.length : Int).toNat]? = some [.int .i64 x] := get_e1 (by rw [Int.toNat_natCast]; exact get_mid _ _ _)
  conv => whnf
  refine ⟨⟨by omega, by omega⟩, ?_⟩
  conv => whnf
  refine ⟨fun _ => ?_, fun h => absurd (by rw [hx1]; omega) h⟩
  conv => whnf
  refine ⟨Int × Int, fun xq => ⟨[(0, .osl 0), (1, I P.length), (2, I (P.length + [x].length)), (3, I (P.length + [x].length + B.length)), (4, .fn 52 [.rp [.sl 1 (rs.map e1)]]), (10, I xq.1), (11, I xq.2)], [(0, .row 3 1 ((P ++ ([x] ++ (B ++ S))).map e1))], 1⟩, fun xq => ∃ u v : Nat, (xq.1 = P.length + 1 + u ∧ xq.2 = P.length + 1 + v ∧ u ≤ v ∧ v ≤ B.length) ∧ LoL (keyR rs) B x u ∧ HiL (keyR rs) B x v, fun xq => (xq.2 - xq.1).toNat, ⟨(_, _), ?_, [], ⟨⟨rfl, rfl⟩, ⟨⟨rfl, rfl⟩, ⟨⟨rfl, rfl⟩, ⟨⟨rfl, rfl⟩, ⟨⟨rfl, rfl⟩, ⟨⟨rfl, rfl⟩, ⟨⟨rfl, rfl⟩, trivial⟩⟩⟩⟩⟩⟩⟩, ⟨⟨rfl, rfl, rfl⟩, trivial⟩, rfl, rfl, rfl⟩, ?_⟩
  · (try dsimp only); exact ⟨0, B.length, ⟨by rw [hx1]; omega, by rw [hx1]; omega, by omega, by omega⟩, .inl rfl, .inl rfl⟩
  rintro ⟨i, j⟩ hk
  obtain ⟨u, v, ⟨hi, hj, huv, hvb⟩, hu, hv⟩ : ∃ u v : Nat, (i = P.length + 1 + u ∧ j = P.length + 1 + v ∧ u ≤ v ∧ v ≤ B.length) ∧ LoL (keyR rs) B x u ∧ HiL (keyR rs) B x v := hk
  (try dsimp only)
  by_cases hij : i < j
  · have hm : (i + j) / 2 = P.length + 1 + ((u + v) / 2 : Nat) := by omega
    obtain ⟨y, hy⟩ := getElem_some (show (u + v) / 2 < B.length by omega)
    have hyr : 0 ≤ y ∧ y < rs.length := hrg y (by simp [List.mem_of_getElem? hy])
    have gh : ((P ++ ([x] ++ (B ++ S))).map e1)[((i + j) / 2).toNat]? = some [.int .i64 y] := get_e1 (by
      rw [show ((i + j) / 2).toNat = P.length + 1 + (u + v) / 2 by omega, List.getElem?_append_right (by omega), List.getElem?_append_right (by rw [hx1]; omega), List.getElem?_append_left (by rw [hx1]; omega)]
      rw [← hy]; congr 1; rw [hx1]; omega)
    have hc := cmpI_lt (keyR rs x) (keyR rs y)
    by_cases hxy : keyR rs x < keyR rs y
    · repeat' ((conv => whnf); first | (refine ⟨fun h => ?_, fun h => ?_⟩ <;> try (exfalso; first | omega | exact absurd h (by decide) | exact h rfl)) | (refine ⟨cl, _, less_h, (rs, y, x), ⟨⟨hyr, hxr⟩, hrs⟩, leVs_of_eq rfl, .inr rfl, rfl, ?_⟩; show norm (I (cmpI (keyR rs x) (keyR rs y))) _) | refine get_at gh ?_ | refine get_at ga ?_ | (refine ⟨(_, _), ⟨?_, by (try dsimp only); omega⟩, [], ⟨⟨rfl, rfl⟩, ⟨⟨rfl, rfl⟩, ⟨⟨rfl, rfl⟩, ⟨⟨rfl, rfl⟩, ⟨⟨rfl, rfl⟩, ⟨⟨rfl, rfl⟩, ⟨⟨rfl, rfl⟩, trivial⟩⟩⟩⟩⟩⟩⟩, ⟨⟨rfl, rfl, rfl⟩, trivial⟩, rfl, rfl, rfl⟩; (try dsimp only); exact ⟨(u + v) / 2 + 1, v, ⟨by omega, by omega, by omega, by omega⟩, .inr ⟨y, hy, hxy⟩, hv⟩) | refine ⟨inR_u64 (by omega) (by omega), ?_⟩ | (refine ⟨by decide, ?_⟩; rw [half]) | refine ⟨⟨by omega, by omega⟩, ?_⟩ | fail)
    · repeat' ((conv => whnf); first | (refine ⟨fun h => ?_, fun h => ?_⟩ <;> try (exfalso; first | omega | exact absurd h (by decide) | exact h rfl)) | (refine ⟨cl, _, less_h, (rs, y, x), ⟨⟨hyr, hxr⟩, hrs⟩, leVs_of_eq rfl, .inr rfl, rfl, ?_⟩; show norm (I (cmpI (keyR rs x) (keyR rs y))) _) | refine get_at gh ?_ | refine get_at ga ?_ | (refine ⟨(_, _), ⟨?_, by (try dsimp only); omega⟩, [], ⟨⟨rfl, rfl⟩, ⟨⟨rfl, rfl⟩, ⟨⟨rfl, rfl⟩, ⟨⟨rfl, rfl⟩, ⟨⟨rfl, rfl⟩, ⟨⟨rfl, rfl⟩, ⟨⟨rfl, rfl⟩, trivial⟩⟩⟩⟩⟩⟩⟩, ⟨⟨rfl, rfl, rfl⟩, trivial⟩, rfl, rfl, rfl⟩; (try dsimp only); exact ⟨u, (u + v) / 2, ⟨by omega, by omega, by omega, by omega⟩, hu, .inr ⟨y, hy, by omega⟩⟩) | refine ⟨inR_u64 (by omega) (by omega), ?_⟩ | (refine ⟨by decide, ?_⟩; rw [half]) | refine ⟨⟨by omega, by omega⟩, ?_⟩ | fail)
  · have huv' : u = v := by omega
    subst huv'
    have hres := put_left hB (hs x (by simp)) hR hu hv
    obtain ⟨B1, B2, hBB, hb1, hb2, hbl⟩ : ∃ B1 B2 : List Int, B = B1 ++ B2 ∧ B.take u = B1 ∧ B.drop u = B2 ∧ B1.length = u := ⟨B.take u, B.drop u, (List.take_append_drop ..).symm, rfl, rfl, by rw [List.length_take]; omega⟩
    rw [hb1, hb2] at hres
    have hBl := congrArg List.length hBB
    rw [List.length_append] at hBl
    repeat' ((conv => whnf); first | (refine ⟨fun h => ?_, fun h => ?_⟩ <;> try (exfalso; first | omega | exact absurd h (by decide) | exact h rfl)) | fail | fail)
    refine ⟨Int × (List (List CV)), fun xq => ⟨[(0, .osl 0), (10, I i), (13, I xq.1)], [(0, .row 3 1 xq.2)], 1⟩, fun xq => ∃ C1 C2 : List Int, B1 = C1 ++ C2 ∧ xq.1 = P.length + C1.length ∧ xq.2 = (P ++ (C1 ++ (x :: (C2 ++ (B2 ++ S))))).map e1, fun xq => (i - xq.1).toNat, ⟨(_, _), ?_, [], ⟨⟨rfl, rfl⟩, ⟨⟨rfl, rfl⟩, ⟨⟨rfl, rfl⟩, trivial⟩⟩⟩, ⟨⟨rfl, rfl, rfl⟩, trivial⟩, rfl, rfl, rfl⟩, ?_⟩
    · (try dsimp only); exact ⟨[], B1, rfl, by simp, by rw [hBB]; simp⟩
    rintro ⟨k, es⟩ hk
    obtain ⟨C1, C2, hC, hk, rfl⟩ : ∃ C1 C2 : List Int, B1 = C1 ++ C2 ∧ k = P.length + C1.length ∧ es = (P ++ (C1 ++ (x :: (C2 ++ (B2 ++ S))))).map e1 := hk
    (try dsimp only)
    have hCl := congrArg List.length hC
    rw [List.length_append] at hCl
    by_cases hki : k < i - 1
    · obtain ⟨y, C3, rfl⟩ := first_of (l := C2) (by omega)
      have hes : P ++ (C1 ++ (x :: (y :: C3 ++ (B2 ++ S)))) = (P ++ C1) ++ x :: y :: (C3 ++ (B2 ++ S)) := by simp
      simp only [List.length_cons] at hCl
      have i1 : (k + 1).toNat = (P ++ C1).length + 1 := by rw [List.length_append]; omega
      have i2 : k.toNat = (P ++ C1).length := by rw [List.length_append]; omega
      have hl2 : ((((P ++ C1) ++ x :: y :: (C3 ++ (B2 ++ S))).map e1).length : Int) = P.length + 1 + B.length + S.length := by simp only [List.length_map, List.length_append, List.length_cons]; omega
      have g1 : (((P ++ C1) ++ x :: y :: (C3 ++ (B2 ++ S))).map e1)[(k + 1).toNat]? = some [.int .i64 y] := get_e1 (by rw [i1]; exact get_mid2 _ _ _ _)
      have g2 : (((P ++ C1) ++ x :: y :: (C3 ++ (B2 ++ S))).map e1)[k.toNat]? = some [.int .i64 x] := get_e1 (by rw [i2]; exact get_mid _ _ _)
      have g3 : ((((P ++ C1) ++ x :: y :: (C3 ++ (B2 ++ S))).map e1).set k.toNat [.int .i64 y])[(k + 1).toNat]? = some [.int .i64 y] := by rw [List.getElem?_set_ne (by omega)]; exact g1
      have g4 : ((((P ++ C1) ++ x :: y :: (C3 ++ (B2 ++ S))).map e1).set k.toNat [.int .i64 y]).set (k + 1).toNat [.int .i64 x] = (P ++ ((C1 ++ [y]) ++ (x :: (C3 ++ (B2 ++ S))))).map e1 := by
        rw [map_set1, map_set1, i1, i2, swap_mid']; simp
      rw [hes]
      generalize (((P ++ C1) ++ x :: y :: (C3 ++ (B2 ++ S))).map e1) = cur at *
      repeat' ((conv => whnf); first | (refine ⟨fun h => ?_, fun h => ?_⟩ <;> try (exfalso; first | omega | exact absurd h (by decide) | exact h rfl)) | refine get_at g1 ?_ | refine get_at g2 ?_ | refine get_at g3 ?_ | (refine ⟨(_, _), ⟨?_, by (try dsimp only); omega⟩, [], ⟨⟨rfl, rfl⟩, ⟨⟨rfl, rfl⟩, ⟨⟨rfl, rfl⟩, trivial⟩⟩⟩, ⟨⟨rfl, rfl, rfl⟩, trivial⟩, rfl, rfl, rfl⟩; (try dsimp only); exact ⟨C1 ++ [y], C3, by rw [hC]; simp, by rw [List.length_append, List.length_singleton]; omega, g4⟩) | refine ⟨⟨by omega, by omega⟩, ?_⟩ | refine ⟨⟨by omega, by (rw [List.length_set]; omega)⟩, ?_⟩ | fail)
    · have hc2 : C2 = [] := List.eq_nil_of_length_eq_zero (by omega)
      subst hc2
      rw [List.append_nil] at hC
      subst hC
      repeat' ((conv => whnf); first | (refine ⟨fun h => ?_, fun h => ?_⟩ <;> try (exfalso; first | omega | exact absurd h (by decide) | exact h rfl)) | refine ⟨⟨by omega, by omega⟩, ?_⟩ | fail | fail)
      refine ⟨[], rfl, rfl, ⟨⟨?_, rfl⟩, trivial⟩, trivial⟩
      exact rowE (by show _ = P ++ (R ++ S); rw [hres]; simp)

end Go.Proofs.Ytbglmocgijlomaa

/- Split: slices.symMerge, a single number behind. -/
namespace Go.Proofs.Ytbglmocgijlomaa
open Go.RowKit

def LoR (f : Int → Int) (B : List Int) (x : Int) (u : Nat) : Prop := u = 0 ∨ ∃ y, B[u - 1]? = some y ∧ f x ≤ f y
def HiR (f : Int → Int) (B : List Int) (x : Int) (v : Nat) : Prop := v = B.length ∨ ∃ y, B[v]? = some y ∧ f y < f x
set_option maxRecDepth 20000 in
theorem symV2 (N : Nat) (rs P : List Int) (x : Int) (A S R : List Int) (h2 : A.length ≠ 1) (hp : (symS N).pre ⟨rs, P, A, [x], S, R⟩) : fnAt Try.prog symIr (symS N) ⟨rs, P, A, [x], S, R⟩ := by
  obtain ⟨⟨hrg, hrs⟩, ⟨hA, _, hs, hR⟩, ⟨hA0, _, hN⟩, hlen⟩ : ((∀ y ∈ A ++ [x], 0 ≤ y ∧ y < rs.length) ∧ rs.length ≤ 1000000) ∧ (A.Pairwise (bef (keyR rs)) ∧ [x].Pairwise (bef (keyR rs)) ∧ (∀ y ∈ A, ∀ z ∈ [x], stb (keyR rs) y z) ∧ SortedOf (keyR rs) (A ++ [x]) R) ∧ (0 < A.length ∧ 0 < [x].length ∧ A.length + [x].length ≤ N) ∧ (P ++ (A ++ ([x] ++ S))).length ≤ 1000000 := hp
  have hx1 : ([x] : List Int).length = 1 := rfl
  have hxr : 0 ≤ x ∧ x < rs.length := hrg x (by simp)
  simp only [List.length_append, hx1] at hlen
  show vc _ _ _ _ ⟨argEnv 0 [.osl 0, I P.length, I (P.length + A.length), I (P.length + A.length + [x].length), .fn 52 [.rp [.sl 1 (rs.map e1)]]], idxFrom 0 [.row 3 1 ((P ++ (A ++ ([x] ++ S))).map e1)], 1⟩
  have hl1 : (((P ++ (A ++ ([x] ++ S))).map e1).length : Int) = P.length + A.length + 1 + S.length := by simp only [List.length_map, List.length_append, hx1]; omega
  have ga : ((P ++ (A ++ ([x] ++ S))).map e1)[((P.length : Int) + A.length).toNat]? = some [.int .i64 x] := get_e1 (by rw [show ((P.length : Int) + A.length).toNat = (P ++ A).length by rw [List.length_append]; omega, ← List.append_assoc]; exact get_mid _ _ _)
  conv => whnf
  refine ⟨⟨by omega, by omega⟩, ?_⟩
  conv => whnf
  refine ⟨fun h => absurd h (by omega), fun _ => ?_⟩
  conv => whnf
  refine ⟨⟨by omega, by omega⟩, ?_⟩
  conv => whnf
  (refine ⟨fun h => ?_, fun h => ?_⟩ <;> try (exfalso; first | omega | exact absurd h (by decide) | exact h rfl))
  conv => whnf
  refine ⟨Int × Int, fun xq => ⟨[(0, .osl 0), (1, I P.length), (2, I (P.length + A.length)), (3, I (P.length + A.length + [x].length)), (4, .fn 52 [.rp [.sl 1 (rs.map e1)]]), (14, I xq.1), (15, I xq.2)], [(0, .row 3 1 ((P ++ (A ++ ([x] ++ S))).map e1))], 1⟩, fun xq => ∃ u v : Nat, (xq.1 = P.length + u ∧ xq.2 = P.length + v ∧ u ≤ v ∧ v ≤ A.length) ∧ LoR (keyR rs) A x u ∧ HiR (keyR rs) A x v, fun xq => (xq.2 - xq.1).toNat, ⟨(_, _), ?_, [], ⟨⟨rfl, rfl⟩, ⟨⟨rfl, rfl⟩, ⟨⟨rfl, rfl⟩, ⟨⟨rfl, rfl⟩, ⟨⟨rfl, rfl⟩, ⟨⟨rfl, rfl⟩, ⟨⟨rfl, rfl⟩, trivial⟩⟩⟩⟩⟩⟩⟩, ⟨⟨rfl, rfl, rfl⟩, trivial⟩, rfl, rfl, rfl⟩, ?_⟩
  · (try dsimp only); exact ⟨0, A.length, ⟨(Int.add_zero _).symm, rfl, by omega, by omega⟩, .inl rfl, .inl rfl⟩
  rintro ⟨i, j⟩ hk
  obtain ⟨u, v, ⟨hi, hj, huv, hvb⟩, hu, hv⟩ : ∃ u v : Nat, (i = P.length + u ∧ j = P.length + v ∧ u ≤ v ∧ v ≤ A.length) ∧ LoR (keyR rs) A x u ∧ HiR (keyR rs) A x v := hk
  (try dsimp only)
  by_cases hij : i < j
  · have hm : (i + j) / 2 = P.length + ((u + v) / 2 : Nat) := by omega
    obtain ⟨y, hy⟩ := getElem_some (show (u + v) / 2 < A.length by omega)
    have hyr : 0 ≤ y ∧ y < rs.length := hrg y (by simp [List.mem_of_getElem? hy])
    have gh : ((P ++ (A ++ ([x] ++ S))).map e1)[((i + j) / 2).toNat]? = some [.int .i64 y] := get_e1 (by
      rw [show ((i + j) / 2).toNat = P.length + (u + v) / 2 by omega, List.getElem?_append_right (by omega), List.getElem?_append_left (by omega)]
      rw [← hy]; congr 1; omega)
    have hc := cmpI_lt (keyR rs y) (keyR rs x)
    by_cases hxy : keyR rs y < keyR rs x
    · repeat' ((conv => whnf); first | (refine ⟨fun h => ?_, fun h => ?_⟩ <;> try (exfalso; first | omega | exact absurd h (by decide) | exact h rfl)) | (refine ⟨cl, _, less_h, (rs, x, y), ⟨⟨hxr, hyr⟩, hrs⟩, leVs_of_eq rfl, .inr rfl, rfl, ?_⟩; show norm (I (cmpI (keyR rs y) (keyR rs x))) _) | refine get_at gh ?_ | refine get_at ga ?_ | (refine ⟨(_, _), ⟨?_, by (try dsimp only); omega⟩, [], ⟨⟨rfl, rfl⟩, ⟨⟨rfl, rfl⟩, ⟨⟨rfl, rfl⟩, ⟨⟨rfl, rfl⟩, ⟨⟨rfl, rfl⟩, ⟨⟨rfl, rfl⟩, ⟨⟨rfl, rfl⟩, trivial⟩⟩⟩⟩⟩⟩⟩, ⟨⟨rfl, rfl, rfl⟩, trivial⟩, rfl, rfl, rfl⟩; (try dsimp only); exact ⟨u, (u + v) / 2, ⟨by omega, by omega, by omega, by omega⟩, hu, .inr ⟨y, hy, hxy⟩⟩) | refine ⟨inR_u64 (by omega) (by omega), ?_⟩ | (refine ⟨by decide, ?_⟩; rw [half]) | refine ⟨⟨by omega, by omega⟩, ?_⟩ | fail)
    · repeat' ((conv => whnf); first | (refine ⟨fun h => ?_, fun h => ?_⟩ <;> try (exfalso; first | omega | exact absurd h (by decide) | exact h rfl)) | (refine ⟨cl, _, less_h, (rs, x, y), ⟨⟨hxr, hyr⟩, hrs⟩, leVs_of_eq rfl, .inr rfl, rfl, ?_⟩; show norm (I (cmpI (keyR rs y) (keyR rs x))) _) | refine get_at gh ?_ | refine get_at ga ?_ | (refine ⟨(_, _), ⟨?_, by (try dsimp only); omega⟩, [], ⟨⟨rfl, rfl⟩, ⟨⟨rfl, rfl⟩, ⟨⟨rfl, rfl⟩, ⟨⟨rfl, rfl⟩, ⟨⟨rfl, rfl⟩, ⟨⟨rfl, rfl⟩, ⟨⟨rfl, rfl⟩, trivial⟩⟩⟩⟩⟩⟩⟩, ⟨⟨rfl, rfl, rfl⟩, trivial⟩, rfl, rfl, rfl⟩; (try dsimp only); exact ⟨(u + v) / 2 + 1, v, ⟨by omega, by omega, by omega, by omega⟩, .inr ⟨y, hy, by omega⟩, hv⟩) | refine ⟨inR_u64 (by omega) (by omega), ?_⟩ | (refine ⟨by decide, ?_⟩; rw [half]) | refine ⟨⟨by omega, by omega⟩, ?_⟩ | fail)
  · have huv' : u = v := by omega
    subst huv'
    have hres := put_right hA (fun y hy => hs y hy x (by simp)) hR hu hv
    obtain ⟨A1, A2, hAA, ha1, ha2, hal⟩ : ∃ A1 A2 : List Int, A = A1 ++ A2 ∧ A.take u = A1 ∧ A.drop u = A2 ∧ A1.length = u := ⟨A.take u, A.drop u, (List.take_append_drop ..).symm, rfl, rfl, by rw [List.length_take]; omega⟩
    rw [ha1, ha2] at hres
    have hAl := congrArg List.length hAA
    rw [List.length_append] at hAl
    repeat' ((conv => whnf); first | (refine ⟨fun h => ?_, fun h => ?_⟩ <;> try (exfalso; first | omega | exact absurd h (by decide) | exact h rfl)) | fail | fail)
    refine ⟨Int × (List (List CV)), fun xq => ⟨[(0, .osl 0), (14, I i), (17, I xq.1)], [(0, .row 3 1 xq.2)], 1⟩, fun xq => ∃ C1 C2 : List Int, A2 = C1 ++ C2 ∧ xq.1 = P.length + A1.length + C1.length ∧ xq.2 = (P ++ (A1 ++ (C1 ++ (x :: (C2 ++ S))))).map e1, fun xq => xq.1.toNat, ⟨(_, _), ?_, [], ⟨⟨rfl, rfl⟩, ⟨⟨rfl, rfl⟩, ⟨⟨rfl, rfl⟩, trivial⟩⟩⟩, ⟨⟨rfl, rfl, rfl⟩, trivial⟩, rfl, rfl, rfl⟩, ?_⟩
    · (try dsimp only); exact ⟨A2, [], by simp, by omega, by rw [hAA]; simp⟩
    rintro ⟨k, es⟩ hk
    obtain ⟨C1, C2, hC, hk, rfl⟩ : ∃ C1 C2 : List Int, A2 = C1 ++ C2 ∧ k = P.length + A1.length + C1.length ∧ es = (P ++ (A1 ++ (C1 ++ (x :: (C2 ++ S))))).map e1 := hk
    (try dsimp only)
    have hCl := congrArg List.length hC
    rw [List.length_append] at hCl
    by_cases hki : i < k
    · obtain ⟨C3, y, rfl⟩ := last_of (l := C1) (by omega)
      have hes : P ++ (A1 ++ (C3 ++ [y] ++ (x :: (C2 ++ S)))) = (P ++ (A1 ++ C3)) ++ y :: x :: (C2 ++ S) := by simp
      rw [List.length_append, List.length_singleton] at hCl hk
      have i1 : k.toNat = (P ++ (A1 ++ C3)).length + 1 := by simp only [List.length_append]; omega
      have i2 : (k - 1).toNat = (P ++ (A1 ++ C3)).length := by simp only [List.length_append]; omega
      have hl2 : ((((P ++ (A1 ++ C3)) ++ y :: x :: (C2 ++ S)).map e1).length : Int) = P.length + A.length + 1 + S.length := by simp only [List.length_map, List.length_append, List.length_cons]; omega
      have g1 : (((P ++ (A1 ++ C3)) ++ y :: x :: (C2 ++ S)).map e1)[k.toNat]? = some [.int .i64 x] := get_e1 (by rw [i1]; exact get_mid2 _ _ _ _)
      have g2 : (((P ++ (A1 ++ C3)) ++ y :: x :: (C2 ++ S)).map e1)[(k - 1).toNat]? = some [.int .i64 y] := get_e1 (by rw [i2]; exact get_mid _ _ _)
      have g3 : ((((P ++ (A1 ++ C3)) ++ y :: x :: (C2 ++ S)).map e1).set k.toNat [.int .i64 y])[(k - 1).toNat]? = some [.int .i64 y] := by rw [List.getElem?_set_ne (by omega)]; exact g2
      have g4 : ((((P ++ (A1 ++ C3)) ++ y :: x :: (C2 ++ S)).map e1).set k.toNat [.int .i64 y]).set (k - 1).toNat [.int .i64 x] = (P ++ (A1 ++ (C3 ++ (x :: ((y :: C2) ++ S))))).map e1 := by
        rw [map_set1, map_set1, i1, i2, swap_mid]; simp
      rw [hes]
      generalize (((P ++ (A1 ++ C3)) ++ y :: x :: (C2 ++ S)).map e1) = cur at *
      repeat' ((conv => whnf); first | (refine ⟨fun h => ?_, fun h => ?_⟩ <;> try (exfalso; first | omega | exact absurd h (by decide) | exact h rfl)) | refine get_at g1 ?_ | refine get_at g2 ?_ | refine get_at g3 ?_ | (refine ⟨(_, _), ⟨?_, by (try dsimp only); omega⟩, [], ⟨⟨rfl, rfl⟩, ⟨⟨rfl, rfl⟩, ⟨⟨rfl, rfl⟩, trivial⟩⟩⟩, ⟨⟨rfl, rfl, rfl⟩, trivial⟩, rfl, rfl, rfl⟩; (try dsimp only); exact ⟨C3, y :: C2, by rw [hC]; simp, by omega, g4⟩) | refine ⟨⟨by omega, by omega⟩, ?_⟩ | refine ⟨⟨by omega, by (rw [List.length_set]; omega)⟩, ?_⟩ | fail)
    · have hc1 : C1 = [] := List.eq_nil_of_length_eq_zero (by omega)
      subst hc1
      rw [List.nil_append] at hC
      subst hC
      repeat' ((conv => whnf); first | (refine ⟨fun h => ?_, fun h => ?_⟩ <;> try (exfalso; first | omega | exact absurd h (by decide) | exact h rfl)) | refine ⟨⟨by omega, by omega⟩, ?_⟩ | fail | fail)
      refine ⟨[], rfl, rfl, ⟨⟨?_, rfl⟩, trivial⟩, trivial⟩
      exact rowE (by show _ = P ++ (R ++ S); rw [hres]; simp)

end Go.Proofs.Ytbglmocgijlomaa

/- Split: slices.symMerge, the cut. -/
namespace Go.Proofs.Ytbglmocgijlomaa
open Go.RowKit

def LoG (f : Int → Int) (A B : List Int) (q u : Nat) : Prop := u = q - B.length ∨ ∃ y z, A[u - 1]? = some z ∧ B[q - u]? = some y ∧ f y ≤ f z
def HiG (f : Int → Int) (A B : List Int) (q u : Nat) : Prop := u = min q A.length ∨ ∃ y z, A[u]? = some z ∧ B[q - u - 1]? = some y ∧ f z < f y

set_option maxHeartbeats 4000000 in
set_option maxRecDepth 20000 in
theorem symV3 (N : Nat) (rs P A B S R : List Int) (h2 : A.length ≠ 1) (h3 : B.length ≠ 1) (hrec : HoldsG Try.prog 84 (symS (A.length + B.length - 1))) (hp : (symS N).pre ⟨rs, P, A, B, S, R⟩) : fnAt Try.prog symIr (symS N) ⟨rs, P, A, B, S, R⟩ := by
  obtain ⟨⟨hrg, hrs⟩, ⟨hA, hB, hs, hR⟩, ⟨hA0, hB0, hN⟩, hlen⟩ : ((∀ y ∈ A ++ B, 0 ≤ y ∧ y < rs.length) ∧ rs.length ≤ 1000000) ∧ (A.Pairwise (bef (keyR rs)) ∧ B.Pairwise (bef (keyR rs)) ∧ (∀ y ∈ A, ∀ z ∈ B, stb (keyR rs) y z) ∧ SortedOf (keyR rs) (A ++ B) R) ∧ (0 < A.length ∧ 0 < B.length ∧ A.length + B.length ≤ N) ∧ (P ++ (A ++ (B ++ S))).length ≤ 1000000 := hp
  simp only [List.length_append] at hlen
  show vc _ _ _ _ ⟨argEnv 0 [.osl 0, I P.length, I (P.length + A.length), I (P.length + A.length + B.length), .fn 52 [.rp [.sl 1 (rs.map e1)]]], idxFrom 0 [.row 3 1 ((P ++ (A ++ (B ++ S))).map e1)], 1⟩
  have hl1 : (((P ++ (A ++ (B ++ S))).map e1).length : Int) = P.length + A.length + B.length + S.length := by simp only [List.length_map, List.length_append]; omega
  obtain ⟨q, hq⟩ : ∃ q : Nat, q = (A.length + B.length) / 2 := ⟨_, rfl⟩
  have hmid : ((P.length : Int) + (P.length + A.length + B.length)) / 2 = P.length + q := by omega
  repeat' ((conv => whnf); first | (refine ⟨fun h => ?_, fun h => ?_⟩ <;> try (exfalso; first | omega | exact absurd h (by decide) | exact h rfl)) | refine ⟨inR_u64 (by omega) (by omega), ?_⟩ | (refine ⟨by decide, ?_⟩; rw [half, hmid]) | refine ⟨⟨by omega, by omega⟩, ?_⟩ | fail)
  all_goals
    refine ⟨Int × Int, fun xq => ⟨[(0, .osl 0), (1, I P.length), (2, I (P.length + A.length)), (3, I (P.length + A.length + B.length)), (4, .fn 52 [.rp [.sl 1 (rs.map e1)]]), (18, I (P.length + q)), (19, I (P.length + q + (P.length + A.length))), (20, I xq.1), (21, I xq.2), (22, I (P.length + q + (P.length + A.length) - 1))], [(0, .row 3 1 ((P ++ (A ++ (B ++ S))).map e1))], 1⟩, fun xq => ∃ u v : Nat, (xq.1 = P.length + u ∧ xq.2 = P.length + v ∧ u ≤ v ∧ v ≤ min q A.length ∧ q - B.length ≤ u) ∧ LoG (keyR rs) A B q u ∧ HiG (keyR rs) A B q v, fun xq => (xq.2 - xq.1).toNat, ⟨(_, _), ?_, [], ⟨⟨rfl, rfl⟩, ⟨⟨rfl, rfl⟩, ⟨⟨rfl, rfl⟩, ⟨⟨rfl, rfl⟩, ⟨⟨rfl, rfl⟩, ⟨⟨rfl, rfl⟩, ⟨⟨rfl, rfl⟩, ⟨⟨rfl, rfl⟩, ⟨⟨rfl, rfl⟩, ⟨⟨rfl, rfl⟩, trivial⟩⟩⟩⟩⟩⟩⟩⟩⟩⟩, ⟨⟨rfl, rfl, rfl⟩, trivial⟩, rfl, rfl, rfl⟩, ?_⟩
    · (try dsimp only); exact ⟨q - B.length, min q A.length, ⟨by first | omega | (rw [show q - B.length = 0 by omega]; exact (Int.add_zero _).symm), by first | omega | (rw [show min q A.length = A.length by omega]; rfl) | (rw [show min q A.length = q by omega]; rfl), by omega, by omega, by omega⟩, .inl rfl, .inl rfl⟩
    rintro ⟨i, j⟩ hk
    obtain ⟨u, v, ⟨hi, hj, huv, hvb, hlo⟩, hu, hv⟩ : ∃ u v : Nat, (i = P.length + u ∧ j = P.length + v ∧ u ≤ v ∧ v ≤ min q A.length ∧ q - B.length ≤ u) ∧ LoG (keyR rs) A B q u ∧ HiG (keyR rs) A B q v := hk
    (try dsimp only)
    by_cases hij : i < j
    · have hm : (i + j) / 2 = P.length + ((u + v) / 2 : Nat) := by omega
      obtain ⟨x, hx⟩ := getElem_some (show (u + v) / 2 < A.length by omega)
      obtain ⟨y, hy⟩ := getElem_some (show q - (u + v) / 2 - 1 < B.length by omega)
      have hxr : 0 ≤ x ∧ x < rs.length := hrg x (by simp [List.mem_of_getElem? hx])
      have hyr : 0 ≤ y ∧ y < rs.length := hrg y (by simp [List.mem_of_getElem? hy])
      have gh : ((P ++ (A ++ (B ++ S))).map e1)[((i + j) / 2).toNat]? = some [.int .i64 x] := get_e1 (by
        rw [show ((i + j) / 2).toNat = P.length + (u + v) / 2 by omega, List.getElem?_append_right (by omega), List.getElem?_append_left (by omega)]
        rw [← hx]; congr 1; omega)
      have ga : ((P ++ (A ++ (B ++ S))).map e1)[((P.length : Int) + q + (P.length + A.length) - 1 - (i + j) / 2).toNat]? = some [.int .i64 y] := get_e1 (by
        rw [show ((P.length : Int) + q + (P.length + A.length) - 1 - (i + j) / 2).toNat = P.length + A.length + (q - (u + v) / 2 - 1) by omega, List.getElem?_append_right (by omega), List.getElem?_append_right (by omega), List.getElem?_append_left (by omega)]
        rw [← hy]; congr 1; omega)
      have hy' : B[q - ((u + v) / 2 + 1)]? = some y := by rw [show q - ((u + v) / 2 + 1) = q - (u + v) / 2 - 1 by omega]; exact hy
      have hc := cmpI_lt (keyR rs x) (keyR rs y)
      by_cases hxy : keyR rs x < keyR rs y
      · repeat' ((conv => whnf); first | (refine ⟨fun h => ?_, fun h => ?_⟩ <;> try (exfalso; first | omega | exact absurd h (by decide) | exact h rfl)) | (refine ⟨cl, _, less_h, (rs, y, x), ⟨⟨hyr, hxr⟩, hrs⟩, leVs_of_eq rfl, .inr rfl, rfl, ?_⟩; show norm (I (cmpI (keyR rs x) (keyR rs y))) _) | refine get_at gh ?_ | refine get_at ga ?_ | (refine ⟨(_, _), ⟨?_, by (try dsimp only); omega⟩, [], ⟨⟨rfl, rfl⟩, ⟨⟨rfl, rfl⟩, ⟨⟨rfl, rfl⟩, ⟨⟨rfl, rfl⟩, ⟨⟨rfl, rfl⟩, ⟨⟨rfl, rfl⟩, ⟨⟨rfl, rfl⟩, ⟨⟨rfl, rfl⟩, ⟨⟨rfl, rfl⟩, ⟨⟨rfl, rfl⟩, trivial⟩⟩⟩⟩⟩⟩⟩⟩⟩⟩, ⟨⟨rfl, rfl, rfl⟩, trivial⟩, rfl, rfl, rfl⟩; (try dsimp only); exact ⟨u, (u + v) / 2, ⟨by omega, by omega, by omega, by omega, by omega⟩, hu, .inr ⟨y, x, hx, hy, hxy⟩⟩) | refine ⟨inR_u64 (by omega) (by omega), ?_⟩ | (refine ⟨by decide, ?_⟩; rw [half]) | refine ⟨⟨by omega, by omega⟩, ?_⟩ | fail)
      · repeat' ((conv => whnf); first | (refine ⟨fun h => ?_, fun h => ?_⟩ <;> try (exfalso; first | omega | exact absurd h (by decide) | exact h rfl)) | (refine ⟨cl, _, less_h, (rs, y, x), ⟨⟨hyr, hxr⟩, hrs⟩, leVs_of_eq rfl, .inr rfl, rfl, ?_⟩; show norm (I (cmpI (keyR rs x) (keyR rs y))) _) | refine get_at gh ?_ | refine get_at ga ?_ | (refine ⟨(_, _), ⟨?_, by (try dsimp only); omega⟩, [], ⟨⟨rfl, rfl⟩, ⟨⟨rfl, rfl⟩, ⟨⟨rfl, rfl⟩, ⟨⟨rfl, rfl⟩, ⟨⟨rfl, rfl⟩, ⟨⟨rfl, rfl⟩, ⟨⟨rfl, rfl⟩, ⟨⟨rfl, rfl⟩, ⟨⟨rfl, rfl⟩, ⟨⟨rfl, rfl⟩, trivial⟩⟩⟩⟩⟩⟩⟩⟩⟩⟩, ⟨⟨rfl, rfl, rfl⟩, trivial⟩, rfl, rfl, rfl⟩; (try dsimp only); exact ⟨(u + v) / 2 + 1, v, ⟨by omega, by omega, by omega, by omega, by omega⟩, .inr ⟨y, x, hx, hy', by omega⟩, hv⟩) | refine ⟨inR_u64 (by omega) (by omega), ?_⟩ | (refine ⟨by decide, ?_⟩; rw [half]) | refine ⟨⟨by omega, by omega⟩, ?_⟩ | fail)
    · have huv' : u = v := by omega
      subst huv'
      have hah := cut_ahead hA hB hs hlo hvb hu hv
      obtain ⟨A1, A2, hAA, ha1, ha2, hal⟩ : ∃ A1 A2 : List Int, A = A1 ++ A2 ∧ A.take u = A1 ∧ A.drop u = A2 ∧ A1.length = u := ⟨A.take u, A.drop u, (List.take_append_drop ..).symm, rfl, rfl, by rw [List.length_take]; omega⟩
      obtain ⟨B1, B2, hBB, hb1, hb2, hbl⟩ : ∃ B1 B2 : List Int, B = B1 ++ B2 ∧ B.take (q - u) = B1 ∧ B.drop (q - u) = B2 ∧ B1.length = q - u := ⟨B.take (q - u), B.drop (q - u), (List.take_append_drop ..).symm, rfl, rfl, by rw [List.length_take]; omega⟩
      rw [ha1, ha2, hb1, hb2] at hah
      have hAl := congrArg List.length hAA
      have hBl := congrArg List.length hBB
      rw [List.length_append] at hAl hBl
      have hst : (A ++ B).Nodup := stb_nodup (f := keyR rs) (List.pairwise_append.2 ⟨hA.imp bef_stb, hB.imp bef_stb, hs⟩)
      rw [hAA, hBB] at hst hR hrg
      have hAp := hA
      have hBp := hB
      rw [hAA, List.pairwise_append] at hAp
      rw [hBB, List.pairwise_append] at hBp
      have hs1 : ∀ y ∈ A1, ∀ z ∈ B1, stb (keyR rs) y z := fun y hy z hz => hs y (by rw [hAA]; simp [hy]) z (by rw [hBB]; simp [hz])
      have hs2 : ∀ y ∈ A2, ∀ z ∈ B2, stb (keyR rs) y z := fun y hy z hz => hs y (by rw [hAA]; simp [hy]) z (by rw [hBB]; simp [hz])
      obtain ⟨R1, hR1⟩ := stb_ex (f := keyR rs) (List.pairwise_append.2 ⟨hAp.1.imp bef_stb, hBp.1.imp bef_stb, hs1⟩)
      obtain ⟨R2, hR2⟩ := stb_ex (f := keyR rs) (List.pairwise_append.2 ⟨hAp.2.1.imp bef_stb, hBp.2.1.imp bef_stb, hs2⟩)
      have hpm : (A1 ++ A2 ++ (B1 ++ B2)).Perm (A1 ++ B1 ++ (A2 ++ B2)) := by
        rw [List.append_assoc, List.append_assoc]
        refine List.Perm.append_left _ ?_
        rw [← List.append_assoc, ← List.append_assoc]
        exact List.Perm.append_right _ List.perm_append_comm
      have hRR := sorted_join ⟨hR.1.trans hpm, hR.2⟩ hR1 hR2 hah
      have hL1 := hR1.1.length_eq
      have hL2 := hR2.1.length_eq
      rw [List.length_append] at hL1 hL2
      have p1 : 0 < A1.length → 0 < B1.length → A2.length + B2.length ≠ 0 → (symS (A.length + B.length - 1)).pre ⟨rs, P, A1, B1, A2 ++ (B2 ++ S), R1⟩ := fun e1 e2 e3 =>
        ⟨⟨fun y hy => hrg y (by rcases List.mem_append.1 hy with h | h <;> simp [h]), hrs⟩, ⟨hAp.1, hBp.1, hs1, hR1⟩, ⟨e1, e2, by show A1.length + B1.length ≤ _; omega⟩, by show (P ++ (A1 ++ (B1 ++ (A2 ++ (B2 ++ S))))).length ≤ 1000000; simp; omega⟩
      have p2 : 0 < A2.length → 0 < B2.length → A1.length + B1.length ≠ 0 → (symS (A.length + B.length - 1)).pre ⟨rs, P ++ R1, A2, B2, S, R2⟩ := fun e1 e2 e3 =>
        ⟨⟨fun y hy => hrg y (by rcases List.mem_append.1 hy with h | h <;> simp [h]), hrs⟩, ⟨hAp.2.1, hBp.2.1, hs2, hR2⟩, ⟨e1, e2, by show A2.length + B2.length ≤ _; omega⟩, by show (P ++ R1 ++ (A2 ++ (B2 ++ S))).length ≤ 1000000; simp; omega⟩
      have q1 : ¬ (0 < A1.length ∧ 0 < B1.length) → R1 = A1 ++ B1 := fun h => by
        refine (sorted_self ?_ hR1).symm
        by_cases e : A1.length = 0
        · rw [List.eq_nil_of_length_eq_zero e]; exact hBp.1
        · rw [List.eq_nil_of_length_eq_zero (l := B1) (by omega), List.append_nil]; exact hAp.1
      have q2 : ¬ (0 < A2.length ∧ 0 < B2.length) → R2 = A2 ++ B2 := fun h => by
        refine (sorted_self ?_ hR2).symm
        by_cases e : A2.length = 0
        · rw [List.eq_nil_of_length_eq_zero e]; exact hBp.2.1
        · rw [List.eq_nil_of_length_eq_zero (l := B2) (by omega), List.append_nil]; exact hAp.2.1
      have hF1 : P ++ (A ++ (B ++ S)) = P ++ A1 ++ (A2 ++ (B1 ++ (B2 ++ S))) := by rw [hAA, hBB]; simp
      have hF2 : ¬ (0 < A2.length ∧ 0 < B1.length) → P ++ (A ++ (B ++ S)) = P ++ (A1 ++ (B1 ++ (A2 ++ (B2 ++ S)))) := fun h => by
        rw [hAA, hBB]
        by_cases e : A2.length = 0
        · rw [List.eq_nil_of_length_eq_zero e]; simp
        · rw [List.eq_nil_of_length_eq_zero (l := B1) (by omega)]; simp
      have hqA : q ≠ 0 := by omega
      by_cases c1 : 0 < A2.length ∧ 0 < B1.length
      · skip
        by_cases c2 : 0 < A1.length ∧ 0 < B1.length
        · skip
          by_cases c3 : 0 < A2.length ∧ 0 < B2.length
          · skip
            repeat' ((conv => whnf); first | (refine ⟨fun h => ?_, fun h => ?_⟩ <;> try (exfalso; first | omega | exact absurd h (by decide) | exact h rfl)) | refine ⟨[0], _, rot_g, ⟨rs, P ++ A1, A2, B1, B2 ++ S⟩, ⟨c1, by show (P ++ A1 ++ (A2 ++ (B1 ++ (B2 ++ S)))).length ≤ 1000000; simp; omega⟩, ⟨⟨⟨rowE hF1, rfl, rfl⟩, trivial⟩, rfl, rfl, rfl⟩, ⟨⟨rfl, rfl⟩, (show leV (I _) (I ((P ++ A1).length)) from leI (by first | omega | (simp; done) | (simp; omega))), (show leV (I _) (I ((P ++ A1).length + A2.length)) from leI (by first | omega | (simp; done) | (simp; omega))), (show leV (I _) (I ((P ++ A1).length + A2.length + B1.length)) from leI (by first | omega | (simp; done) | (simp; omega))), rfl, trivial⟩, .inr ⟨rfl, ⟨cln1 _, trivial⟩, trivial⟩, ⟨⟨⟨⟨rfl, rfl⟩, by first | (simp; done) | (simp; omega)⟩, trivial⟩, trivial⟩, ?_⟩ | refine ⟨[0], _, hrec, ⟨rs, P, A1, B1, A2 ++ (B2 ++ S), R1⟩, p1 c2.1 c2.2 (by omega), ⟨⟨⟨rowE (by simp), rfl, rfl⟩, trivial⟩, rfl, rfl, rfl⟩, ⟨⟨rfl, rfl⟩, (show leV (I _) (I (P.length)) from leI (by first | omega | (simp; done) | (simp; omega))), (show leV (I _) (I (P.length + A1.length)) from leI (by first | omega | (simp; done) | (simp; omega))), (show leV (I _) (I (P.length + A1.length + B1.length)) from leI (by first | omega | (simp; done) | (simp; omega))), rfl, trivial⟩, .inr ⟨rfl, ⟨cln1 _, trivial⟩, trivial⟩, ⟨⟨⟨⟨rfl, rfl⟩, by first | (simp; done) | (simp; omega)⟩, trivial⟩, trivial⟩, ?_⟩ | refine ⟨[0], _, hrec, ⟨rs, P ++ R1, A2, B2, S, R2⟩, p2 c3.1 c3.2 (by omega), ⟨⟨⟨rowE (by simp), rfl, rfl⟩, trivial⟩, rfl, rfl, rfl⟩, ⟨⟨rfl, rfl⟩, (show leV (I _) (I ((P ++ R1).length)) from leI (by first | omega | (simp; done) | (simp; omega))), (show leV (I _) (I ((P ++ R1).length + A2.length)) from leI (by first | omega | (simp; done) | (simp; omega))), (show leV (I _) (I ((P ++ R1).length + A2.length + B2.length)) from leI (by first | omega | (simp; done) | (simp; omega))), rfl, trivial⟩, .inr ⟨rfl, ⟨cln1 _, trivial⟩, trivial⟩, ⟨⟨⟨⟨rfl, rfl⟩, by first | (simp; done) | (simp; omega)⟩, trivial⟩, trivial⟩, ?_⟩ | refine ⟨⟨by omega, by omega⟩, ?_⟩ | fail)
            all_goals (refine ⟨[], rfl, rfl, ⟨⟨?_, rfl⟩, trivial⟩, trivial⟩; exact rowE (by show _ = P ++ (R ++ S); rw [← hRR]; simp))
          · obtain rfl := q2 c3
            repeat' ((conv => whnf); first | (refine ⟨fun h => ?_, fun h => ?_⟩ <;> try (exfalso; first | omega | exact absurd h (by decide) | exact h rfl)) | refine ⟨[0], _, rot_g, ⟨rs, P ++ A1, A2, B1, B2 ++ S⟩, ⟨c1, by show (P ++ A1 ++ (A2 ++ (B1 ++ (B2 ++ S)))).length ≤ 1000000; simp; omega⟩, ⟨⟨⟨rowE hF1, rfl, rfl⟩, trivial⟩, rfl, rfl, rfl⟩, ⟨⟨rfl, rfl⟩, (show leV (I _) (I ((P ++ A1).length)) from leI (by first | omega | (simp; done) | (simp; omega))), (show leV (I _) (I ((P ++ A1).length + A2.length)) from leI (by first | omega | (simp; done) | (simp; omega))), (show leV (I _) (I ((P ++ A1).length + A2.length + B1.length)) from leI (by first | omega | (simp; done) | (simp; omega))), rfl, trivial⟩, .inr ⟨rfl, ⟨cln1 _, trivial⟩, trivial⟩, ⟨⟨⟨⟨rfl, rfl⟩, by first | (simp; done) | (simp; omega)⟩, trivial⟩, trivial⟩, ?_⟩ | refine ⟨[0], _, hrec, ⟨rs, P, A1, B1, A2 ++ (B2 ++ S), R1⟩, p1 c2.1 c2.2 (by omega), ⟨⟨⟨rowE (by simp), rfl, rfl⟩, trivial⟩, rfl, rfl, rfl⟩, ⟨⟨rfl, rfl⟩, (show leV (I _) (I (P.length)) from leI (by first | omega | (simp; done) | (simp; omega))), (show leV (I _) (I (P.length + A1.length)) from leI (by first | omega | (simp; done) | (simp; omega))), (show leV (I _) (I (P.length + A1.length + B1.length)) from leI (by first | omega | (simp; done) | (simp; omega))), rfl, trivial⟩, .inr ⟨rfl, ⟨cln1 _, trivial⟩, trivial⟩, ⟨⟨⟨⟨rfl, rfl⟩, by first | (simp; done) | (simp; omega)⟩, trivial⟩, trivial⟩, ?_⟩ | refine ⟨⟨by omega, by omega⟩, ?_⟩ | fail)
            all_goals (refine ⟨[], rfl, rfl, ⟨⟨?_, rfl⟩, trivial⟩, trivial⟩; exact rowE (by show _ = P ++ (R ++ S); rw [← hRR]; simp))
        · obtain rfl := q1 c2
          by_cases c3 : 0 < A2.length ∧ 0 < B2.length
          · skip
            repeat' ((conv => whnf); first | (refine ⟨fun h => ?_, fun h => ?_⟩ <;> try (exfalso; first | omega | exact absurd h (by decide) | exact h rfl)) | refine ⟨[0], _, rot_g, ⟨rs, P ++ A1, A2, B1, B2 ++ S⟩, ⟨c1, by show (P ++ A1 ++ (A2 ++ (B1 ++ (B2 ++ S)))).length ≤ 1000000; simp; omega⟩, ⟨⟨⟨rowE hF1, rfl, rfl⟩, trivial⟩, rfl, rfl, rfl⟩, ⟨⟨rfl, rfl⟩, (show leV (I _) (I ((P ++ A1).length)) from leI (by first | omega | (simp; done) | (simp; omega))), (show leV (I _) (I ((P ++ A1).length + A2.length)) from leI (by first | omega | (simp; done) | (simp; omega))), (show leV (I _) (I ((P ++ A1).length + A2.length + B1.length)) from leI (by first | omega | (simp; done) | (simp; omega))), rfl, trivial⟩, .inr ⟨rfl, ⟨cln1 _, trivial⟩, trivial⟩, ⟨⟨⟨⟨rfl, rfl⟩, by first | (simp; done) | (simp; omega)⟩, trivial⟩, trivial⟩, ?_⟩ | refine ⟨[0], _, hrec, ⟨rs, P ++ (A1 ++ B1), A2, B2, S, R2⟩, p2 c3.1 c3.2 (by omega), ⟨⟨⟨rowE (by simp), rfl, rfl⟩, trivial⟩, rfl, rfl, rfl⟩, ⟨⟨rfl, rfl⟩, (show leV (I _) (I ((P ++ (A1 ++ B1)).length)) from leI (by first | omega | (simp; done) | (simp; omega))), (show leV (I _) (I ((P ++ (A1 ++ B1)).length + A2.length)) from leI (by first | omega | (simp; done) | (simp; omega))), (show leV (I _) (I ((P ++ (A1 ++ B1)).length + A2.length + B2.length)) from leI (by first | omega | (simp; done) | (simp; omega))), rfl, trivial⟩, .inr ⟨rfl, ⟨cln1 _, trivial⟩, trivial⟩, ⟨⟨⟨⟨rfl, rfl⟩, by first | (simp; done) | (simp; omega)⟩, trivial⟩, trivial⟩, ?_⟩ | refine ⟨⟨by omega, by omega⟩, ?_⟩ | fail)
            all_goals (refine ⟨[], rfl, rfl, ⟨⟨?_, rfl⟩, trivial⟩, trivial⟩; exact rowE (by show _ = P ++ (R ++ S); rw [← hRR]; simp))
          · obtain rfl := q2 c3
            repeat' ((conv => whnf); first | (refine ⟨fun h => ?_, fun h => ?_⟩ <;> try (exfalso; first | omega | exact absurd h (by decide) | exact h rfl)) | refine ⟨[0], _, rot_g, ⟨rs, P ++ A1, A2, B1, B2 ++ S⟩, ⟨c1, by show (P ++ A1 ++ (A2 ++ (B1 ++ (B2 ++ S)))).length ≤ 1000000; simp; omega⟩, ⟨⟨⟨rowE hF1, rfl, rfl⟩, trivial⟩, rfl, rfl, rfl⟩, ⟨⟨rfl, rfl⟩, (show leV (I _) (I ((P ++ A1).length)) from leI (by first | omega | (simp; done) | (simp; omega))), (show leV (I _) (I ((P ++ A1).length + A2.length)) from leI (by first | omega | (simp; done) | (simp; omega))), (show leV (I _) (I ((P ++ A1).length + A2.length + B1.length)) from leI (by first | omega | (simp; done) | (simp; omega))), rfl, trivial⟩, .inr ⟨rfl, ⟨cln1 _, trivial⟩, trivial⟩, ⟨⟨⟨⟨rfl, rfl⟩, by first | (simp; done) | (simp; omega)⟩, trivial⟩, trivial⟩, ?_⟩ | refine ⟨⟨by omega, by omega⟩, ?_⟩ | fail)
            all_goals (refine ⟨[], rfl, rfl, ⟨⟨?_, rfl⟩, trivial⟩, trivial⟩; exact rowE (by show _ = P ++ (R ++ S); rw [← hRR]; simp))
      · rw [hF2 c1]
        by_cases c2 : 0 < A1.length ∧ 0 < B1.length
        · skip
          by_cases c3 : 0 < A2.length ∧ 0 < B2.length
          · skip
            repeat' ((conv => whnf); first | (refine ⟨fun h => ?_, fun h => ?_⟩ <;> try (exfalso; first | omega | exact absurd h (by decide) | exact h rfl)) | refine ⟨[0], _, hrec, ⟨rs, P, A1, B1, A2 ++ (B2 ++ S), R1⟩, p1 c2.1 c2.2 (by omega), ⟨⟨⟨rfl, rfl, rfl⟩, trivial⟩, rfl, rfl, rfl⟩, ⟨⟨rfl, rfl⟩, (show leV (I _) (I (P.length)) from leI (by first | omega | (simp; done) | (simp; omega))), (show leV (I _) (I (P.length + A1.length)) from leI (by first | omega | (simp; done) | (simp; omega))), (show leV (I _) (I (P.length + A1.length + B1.length)) from leI (by first | omega | (simp; done) | (simp; omega))), rfl, trivial⟩, .inr ⟨rfl, ⟨cln1 _, trivial⟩, trivial⟩, ⟨⟨⟨⟨rfl, rfl⟩, by first | (simp; done) | (simp; omega)⟩, trivial⟩, trivial⟩, ?_⟩ | refine ⟨[0], _, hrec, ⟨rs, P ++ R1, A2, B2, S, R2⟩, p2 c3.1 c3.2 (by omega), ⟨⟨⟨rowE (by simp), rfl, rfl⟩, trivial⟩, rfl, rfl, rfl⟩, ⟨⟨rfl, rfl⟩, (show leV (I _) (I ((P ++ R1).length)) from leI (by first | omega | (simp; done) | (simp; omega))), (show leV (I _) (I ((P ++ R1).length + A2.length)) from leI (by first | omega | (simp; done) | (simp; omega))), (show leV (I _) (I ((P ++ R1).length + A2.length + B2.length)) from leI (by first | omega | (simp; done) | (simp; omega))), rfl, trivial⟩, .inr ⟨rfl, ⟨cln1 _, trivial⟩, trivial⟩, ⟨⟨⟨⟨rfl, rfl⟩, by first | (simp; done) | (simp; omega)⟩, trivial⟩, trivial⟩, ?_⟩ | refine ⟨⟨by omega, by omega⟩, ?_⟩ | fail)
            all_goals (refine ⟨[], rfl, rfl, ⟨⟨?_, rfl⟩, trivial⟩, trivial⟩; exact rowE (by show _ = P ++ (R ++ S); rw [← hRR]; simp))
          · obtain rfl := q2 c3
            repeat' ((conv => whnf); first | (refine ⟨fun h => ?_, fun h => ?_⟩ <;> try (exfalso; first | omega | exact absurd h (by decide) | exact h rfl)) | refine ⟨[0], _, hrec, ⟨rs, P, A1, B1, A2 ++ (B2 ++ S), R1⟩, p1 c2.1 c2.2 (by omega), ⟨⟨⟨rfl, rfl, rfl⟩, trivial⟩, rfl, rfl, rfl⟩, ⟨⟨rfl, rfl⟩, (show leV (I _) (I (P.length)) from leI (by first | omega | (simp; done) | (simp; omega))), (show leV (I _) (I (P.length + A1.length)) from leI (by first | omega | (simp; done) | (simp; omega))), (show leV (I _) (I (P.length + A1.length + B1.length)) from leI (by first | omega | (simp; done) | (simp; omega))), rfl, trivial⟩, .inr ⟨rfl, ⟨cln1 _, trivial⟩, trivial⟩, ⟨⟨⟨⟨rfl, rfl⟩, by first | (simp; done) | (simp; omega)⟩, trivial⟩, trivial⟩, ?_⟩ | refine ⟨⟨by omega, by omega⟩, ?_⟩ | fail)
            all_goals (refine ⟨[], rfl, rfl, ⟨⟨?_, rfl⟩, trivial⟩, trivial⟩; exact rowE (by show _ = P ++ (R ++ S); rw [← hRR]; simp))
        · obtain rfl := q1 c2
          by_cases c3 : 0 < A2.length ∧ 0 < B2.length
          · skip
            repeat' ((conv => whnf); first | (refine ⟨fun h => ?_, fun h => ?_⟩ <;> try (exfalso; first | omega | exact absurd h (by decide) | exact h rfl)) | refine ⟨[0], _, hrec, ⟨rs, P ++ (A1 ++ B1), A2, B2, S, R2⟩, p2 c3.1 c3.2 (by omega), ⟨⟨⟨rowE (by simp), rfl, rfl⟩, trivial⟩, rfl, rfl, rfl⟩, ⟨⟨rfl, rfl⟩, (show leV (I _) (I ((P ++ (A1 ++ B1)).length)) from leI (by first | omega | (simp; done) | (simp; omega))), (show leV (I _) (I ((P ++ (A1 ++ B1)).length + A2.length)) from leI (by first | omega | (simp; done) | (simp; omega))), (show leV (I _) (I ((P ++ (A1 ++ B1)).length + A2.length + B2.length)) from leI (by first | omega | (simp; done) | (simp; omega))), rfl, trivial⟩, .inr ⟨rfl, ⟨cln1 _, trivial⟩, trivial⟩, ⟨⟨⟨⟨rfl, rfl⟩, by first | (simp; done) | (simp; omega)⟩, trivial⟩, trivial⟩, ?_⟩ | refine ⟨⟨by omega, by omega⟩, ?_⟩ | fail)
            all_goals (refine ⟨[], rfl, rfl, ⟨⟨?_, rfl⟩, trivial⟩, trivial⟩; exact rowE (by show _ = P ++ (R ++ S); rw [← hRR]; simp))
          · obtain rfl := q2 c3
            repeat' ((conv => whnf); first | (refine ⟨fun h => ?_, fun h => ?_⟩ <;> try (exfalso; first | omega | exact absurd h (by decide) | exact h rfl)) | refine ⟨⟨by omega, by omega⟩, ?_⟩ | fail)
            all_goals (refine ⟨[], rfl, rfl, ⟨⟨?_, rfl⟩, trivial⟩, trivial⟩; exact rowE (by show _ = P ++ (R ++ S); rw [← hRR]; simp))

theorem sym_g : ∀ N : Nat, HoldsG Try.prog 84 (symS N) := by
  intro N
  induction N using Nat.strongRecOn with
  | _ N ih =>
    refine holdsG_of mix Try.func84 symLow (fun _ => rfl) ?_
    rintro ⟨rs, P, A, B, S, R⟩ hp
    obtain ⟨_, _, ⟨hA0, hB0, hN⟩, _⟩ := id hp
    replace hN : A.length + B.length ≤ N := hN
    replace hA0 : 0 < A.length := hA0
    by_cases h2 : A.length = 1
    · obtain ⟨x, rfl⟩ := List.length_eq_one_iff.1 h2
      exact symV1 N rs P x B S R hp
    · by_cases h3 : B.length = 1
      · obtain ⟨x, rfl⟩ := List.length_eq_one_iff.1 h3
        exact symV2 N rs P x A S R h2 hp
      · exact symV3 N rs P A B S R h2 h3 (ih _ (by omega)) hp

end Go.Proofs.Ytbglmocgijlomaa
