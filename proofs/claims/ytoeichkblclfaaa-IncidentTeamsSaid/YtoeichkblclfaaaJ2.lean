/- Assignments: the program's search. -/
import Derived.Test.YtoeichkblclfaaaJ1
import Derived.Test.YtoeichkblclfaaaI9
namespace Go.Proofs.Ytoeichkblclfaaa
open Go.RowKit
abbrev encR (r : List Int) : List CV := [.sl 1 (r.map e1)]
def GoodM (c : Nat) (m : List (List Int)) : Prop := (m.length ≤ c ∧ c ≤ 8) ∧ OkM c m
theorem len_e1 (l : List Int) : (l.map e1).length = l.length := List.length_map ..

/-! skiarea/assign.Right -/
def arightIr : IFn := ⟨65, [.tmp 2],
  (.seq (.ops [
    ⟨(some 2), .mov, [.const (.int .i64 0)], none⟩] false)
  (.seq (.seq (.ops [
    ⟨(some 11), .mov, [.tmp 0], none⟩,
    ⟨(some 12), .len, [.tmp 11], none⟩,
    ⟨(some 13), .cmp .gtr, [.tmp 12, .const (.int .i64 8)], none⟩] false)
  (.cond (.tmp 13)
    (.seq (.ops [
      ⟨(some 2), .mov, [.const (.int .i64 4)], none⟩] false)
    .ret)
    .skip))
  (.seq (.seq (.ops [
    ⟨(some 14), .mov, [.tmp 0], none⟩,
    ⟨(some 15), .len, [.tmp 14], none⟩,
    ⟨(some 16), .mov, [.const (.int .i64 0)], none⟩] false)
  (.block 0
    (.loop
      (.seq (.ops [
        ⟨(some 17), .cmp .lss, [.tmp 16, .tmp 15], none⟩] false)
      (.seq (.cond (.tmp 17)
        .skip
        (.exit 0))
      (.seq (.block 1
        (.seq (.ops [
          ⟨(some 18), .idx 1, [.tmp 14, .tmp 16], none⟩,
          ⟨(some 19), .load 1 false, [.tmp 18], none⟩,
          ⟨(some 4), .mov, [.tmp 19], none⟩] false)
        (.seq (.ops [
          ⟨(some 20), .mov, [.tmp 4], none⟩,
          ⟨(some 21), .len, [.tmp 20], none⟩,
          ⟨(some 22), .cmp .gtr, [.tmp 21, .const (.int .i64 8)], none⟩] false)
        (.cond (.tmp 22)
          (.seq (.ops [
            ⟨(some 2), .mov, [.const (.int .i64 4)], none⟩] false)
          .ret)
          .skip))))
      (.ops [
        ⟨(some 23), .bin .add .i64 false, [.tmp 16, .const (.int .i64 1)], none⟩,
        ⟨(some 16), .mov, [.tmp 23], none⟩] false)))))))
  (.seq (.seq (.ops [
    ⟨(some 24), .mov, [.tmp 0], none⟩,
    ⟨(some 25), .len, [.tmp 24], none⟩,
    ⟨(some 26), .mov, [.const (.int .i64 0)], none⟩] false)
  (.block 2
    (.loop
      (.seq (.ops [
        ⟨(some 27), .cmp .lss, [.tmp 26, .tmp 25], none⟩] false)
      (.seq (.cond (.tmp 27)
        .skip
        (.exit 2))
      (.seq (.block 3
        (.seq (.ops [
          ⟨(some 28), .idx 1, [.tmp 24, .tmp 26], none⟩,
          ⟨(some 29), .load 1 false, [.tmp 28], none⟩,
          ⟨(some 6), .mov, [.tmp 29], none⟩] false)
        (.seq (.ops [
          ⟨(some 30), .mov, [.tmp 6], none⟩,
          ⟨(some 31), .len, [.tmp 30], none⟩,
          ⟨(some 32), .mov, [.tmp 0], none⟩,
          ⟨(some 33), .idx 1, [.tmp 32, .const (.int .i64 0)], none⟩,
          ⟨(some 34), .load 1 false, [.tmp 33], none⟩,
          ⟨(some 35), .len, [.tmp 34], none⟩,
          ⟨(some 36), .cmp .neq, [.tmp 31, .tmp 35], none⟩,
          ⟨(some 37), .mov, [.tmp 36], none⟩,
          ⟨(some 38), .mov, [.tmp 6], (some (37, false))⟩,
          ⟨(some 39), .len, [.tmp 38], (some (37, false))⟩,
          ⟨(some 40), .mov, [.tmp 0], (some (37, false))⟩,
          ⟨(some 41), .len, [.tmp 40], (some (37, false))⟩,
          ⟨(some 42), .cmp .lss, [.tmp 39, .tmp 41], (some (37, false))⟩,
          ⟨(some 43), .pick, [.tmp 37, .const (.bool true), .tmp 42], none⟩] false)
        (.cond (.tmp 43)
          (.seq (.ops [
            ⟨(some 2), .mov, [.const (.int .i64 3)], none⟩] false)
          .ret)
          .skip))))
      (.ops [
        ⟨(some 44), .bin .add .i64 false, [.tmp 26, .const (.int .i64 1)], none⟩,
        ⟨(some 26), .mov, [.tmp 44], none⟩] false)))))))
  (.seq (.seq (.ops [
    ⟨(some 45), .mov, [.tmp 0], none⟩,
    ⟨(some 46), .len, [.tmp 45], none⟩,
    ⟨(some 47), .mov, [.const (.int .i64 0)], none⟩] false)
  (.block 4
    (.loop
      (.seq (.ops [
        ⟨(some 48), .cmp .lss, [.tmp 47, .tmp 46], none⟩] false)
      (.seq (.cond (.tmp 48)
        .skip
        (.exit 4))
      (.seq (.block 5
        (.seq (.ops [
          ⟨(some 49), .idx 1, [.tmp 45, .tmp 47], none⟩,
          ⟨(some 50), .load 1 false, [.tmp 49], none⟩,
          ⟨(some 8), .mov, [.tmp 50], none⟩] false)
        (.seq (.ops [
          ⟨(some 51), .mov, [.tmp 8], none⟩,
          ⟨(some 52), .len, [.tmp 51], none⟩,
          ⟨(some 53), .mov, [.const (.int .i64 0)], none⟩] false)
        (.block 6
          (.loop
            (.seq (.ops [
              ⟨(some 54), .cmp .lss, [.tmp 53, .tmp 52], none⟩] false)
            (.seq (.cond (.tmp 54)
              .skip
              (.exit 6))
            (.seq (.block 7
              (.seq (.ops [
                ⟨(some 55), .idx 1, [.tmp 51, .tmp 53], none⟩,
                ⟨(some 56), .load 1 false, [.tmp 55], none⟩,
                ⟨(some 10), .mov, [.tmp 56], none⟩] false)
              (.seq (.ops [
                ⟨(some 57), .mov, [.tmp 10], none⟩,
                ⟨(some 58), .cmp .lss, [.tmp 57, .const (.int .i64 0)], none⟩,
                ⟨(some 59), .mov, [.tmp 58], none⟩,
                ⟨(some 60), .mov, [.tmp 10], (some (59, false))⟩,
                ⟨(some 61), .cmp .gtr, [.tmp 60, .const (.int .i64 1000000)], (some (59, false))⟩,
                ⟨(some 62), .pick, [.tmp 59, .const (.bool true), .tmp 61], none⟩] false)
              (.cond (.tmp 62)
                (.seq (.ops [
                  ⟨(some 2), .mov, [.const (.int .i64 2)], none⟩] false)
                .ret)
                .skip))))
            (.ops [
              ⟨(some 63), .bin .add .i64 false, [.tmp 53, .const (.int .i64 1)], none⟩,
              ⟨(some 53), .mov, [.tmp 63], none⟩] false)))))))))
      (.ops [
        ⟨(some 64), .bin .add .i64 false, [.tmp 47, .const (.int .i64 1)], none⟩,
        ⟨(some 47), .mov, [.tmp 64], none⟩] false)))))))
  (.seq (.ops [
    ⟨(some 2), .mov, [.const (.int .i64 0)], none⟩] false)
  .ret))))))⟩
theorem arightLow : lowF Try.prog {} Try.f72 = some arightIr := by kernel_rfl
def arightS : Spec := spec (Nat × List (List Int)) (fun p => [L 1 (p.2.map encR)]) (fun p => GoodM p.1 p.2) (fun _ => I 0)
theorem arightV : fnV Try.prog arightIr arightS := by
  intro ⟨(c : Nat), (m : List (List Int))⟩ hg
  obtain ⟨⟨h1, h2⟩, hm⟩ : (m.length ≤ c ∧ c ≤ 8) ∧ OkM c m := hg
  have hl : (m.map encR).length = m.length := List.length_map ..
  show vc _ _ _ _ ⟨argEnv 0 [L 1 (m.map encR)], [], 0⟩
  repeat' ((conv => whnf); first | (refine ⟨fun h => ?_, fun h => ?_⟩ <;> try (exfalso; first | omega | exact absurd h (by decide) | exact h rfl | exact absurd (show true = false from h) (by decide) | exact absurd (show false = true from h) (by decide))) | fail | fail)
  refine ⟨Nat, fun xq => ⟨[(0, L 1 (m.map encR)), (14, L 1 (m.map encR)), (15, I (m.map encR).length), (16, I xq)], [], 0⟩, fun xq => xq ≤ m.length, fun xq => m.length - xq, ⟨0, ?_, [], ⟨⟨rfl, rfl⟩, ⟨⟨rfl, rfl⟩, ⟨⟨rfl, rfl⟩, ⟨⟨rfl, rfl⟩, trivial⟩⟩⟩⟩, trivial, rfl, rfl, rfl⟩, ?_⟩
  · (try dsimp only); exact Nat.zero_le _
  rintro k hk
  obtain hk : k ≤ m.length := hk
  (try dsimp only)
  by_cases hkl : k < m.length
  · obtain ⟨x, hx⟩ := getElem_some hkl
    obtain ⟨x0, hx0⟩ := getElem_some (show 0 < m.length by omega)
    have hxl : (x.map e1).length = c := (len_e1 x).trans (hm x (List.mem_of_getElem? hx)).1
    have hxl0 : (x0.map e1).length = c := (len_e1 x0).trans (hm x0 (List.mem_of_getElem? hx0)).1
    repeat' ((conv => whnf); first | (refine ⟨fun h => ?_, fun h => ?_⟩ <;> try (exfalso; first | omega | exact absurd h (by decide) | exact h rfl | exact absurd (show true = false from h) (by decide) | exact absurd (show false = true from h) (by decide))) | (refine ⟨by omega, fun r hrr => ?_⟩; first | ((have hre : r = encR x := by (first | exact get_row hrr hx | fail)); subst hre)) | (refine ⟨k + 1, ⟨?_, by (try dsimp only); omega⟩, [], ⟨⟨rfl, rfl⟩, ⟨⟨rfl, rfl⟩, ⟨⟨rfl, rfl⟩, ⟨⟨rfl, rfl⟩, trivial⟩⟩⟩⟩, trivial, rfl, rfl, rfl⟩; (try dsimp only); omega) | refine ⟨⟨by omega, by omega⟩, ?_⟩ | fail)
  · repeat' ((conv => whnf); first | (refine ⟨fun h => ?_, fun h => ?_⟩ <;> try (exfalso; first | omega | exact absurd h (by decide) | exact h rfl | exact absurd (show true = false from h) (by decide) | exact absurd (show false = true from h) (by decide))) | fail | fail)
    refine ⟨Nat, fun xq => ⟨[(0, L 1 (m.map encR)), (24, L 1 (m.map encR)), (25, I (m.map encR).length), (26, I xq)], [], 0⟩, fun xq => xq ≤ m.length, fun xq => m.length - xq, ⟨0, ?_, [], ⟨⟨rfl, rfl⟩, ⟨⟨rfl, rfl⟩, ⟨⟨rfl, rfl⟩, ⟨⟨rfl, rfl⟩, trivial⟩⟩⟩⟩, trivial, rfl, rfl, rfl⟩, ?_⟩
    · (try dsimp only); exact Nat.zero_le _
    rintro k hk
    obtain hk : k ≤ m.length := hk
    (try dsimp only)
    by_cases hkl : k < m.length
    · obtain ⟨x, hx⟩ := getElem_some hkl
      obtain ⟨x0, hx0⟩ := getElem_some (show 0 < m.length by omega)
      have hxl : (x.map e1).length = c := (len_e1 x).trans (hm x (List.mem_of_getElem? hx)).1
      have hxl0 : (x0.map e1).length = c := (len_e1 x0).trans (hm x0 (List.mem_of_getElem? hx0)).1
      repeat' ((conv => whnf); first | (refine ⟨fun h => ?_, fun h => ?_⟩ <;> try (exfalso; first | omega | exact absurd h (by decide) | exact h rfl | exact absurd (show true = false from h) (by decide) | exact absurd (show false = true from h) (by decide))) | (refine ⟨by omega, fun r hrr => ?_⟩; first | ((have hre : r = encR x := by (first | exact get_row hrr hx | fail)); subst hre) | ((have hre : r = encR x0 := by (first | exact get_rowi (j := 0) hrr (by omega) hx0 | fail)); subst hre)) | (refine ⟨k + 1, ⟨?_, by (try dsimp only); omega⟩, [], ⟨⟨rfl, rfl⟩, ⟨⟨rfl, rfl⟩, ⟨⟨rfl, rfl⟩, ⟨⟨rfl, rfl⟩, trivial⟩⟩⟩⟩, trivial, rfl, rfl, rfl⟩; (try dsimp only); omega) | refine ⟨⟨by omega, by omega⟩, ?_⟩ | fail)
    · repeat' ((conv => whnf); first | (refine ⟨fun h => ?_, fun h => ?_⟩ <;> try (exfalso; first | omega | exact absurd h (by decide) | exact h rfl | exact absurd (show true = false from h) (by decide) | exact absurd (show false = true from h) (by decide))) | fail | fail)
      refine ⟨Nat, fun xq => ⟨[(45, L 1 (m.map encR)), (46, I (m.map encR).length), (47, I xq)], [], 0⟩, fun xq => xq ≤ m.length, fun xq => m.length - xq, ⟨0, ?_, [], ⟨⟨rfl, rfl⟩, ⟨⟨rfl, rfl⟩, ⟨⟨rfl, rfl⟩, trivial⟩⟩⟩, trivial, rfl, rfl, rfl⟩, ?_⟩
      · (try dsimp only); exact Nat.zero_le _
      rintro k hk
      obtain hk : k ≤ m.length := hk
      (try dsimp only)
      by_cases hkl : k < m.length
      · obtain ⟨x, hx⟩ := getElem_some hkl
        obtain ⟨x0, hx0⟩ := getElem_some (show 0 < m.length by omega)
        have hxl : (x.map e1).length = c := (len_e1 x).trans (hm x (List.mem_of_getElem? hx)).1
        have hxl0 : (x0.map e1).length = c := (len_e1 x0).trans (hm x0 (List.mem_of_getElem? hx0)).1
        repeat' ((conv => whnf); first | (refine ⟨fun h => ?_, fun h => ?_⟩ <;> try (exfalso; first | omega | exact absurd h (by decide) | exact h rfl | exact absurd (show true = false from h) (by decide) | exact absurd (show false = true from h) (by decide))) | (refine ⟨by omega, fun r hrr => ?_⟩; first | ((have hre : r = encR x := by (first | exact get_row hrr hx | fail)); subst hre)) | fail | fail)
        refine ⟨Nat, fun xq => ⟨[(45, L 1 (m.map encR)), (46, I (m.map encR).length), (47, I k), (51, L 1 (x.map e1)), (52, I (x.map e1).length), (53, I xq)], [], 0⟩, fun xq => xq ≤ x.length, fun xq => x.length - xq, ⟨0, ?_, [], ⟨⟨rfl, rfl⟩, ⟨⟨rfl, rfl⟩, ⟨⟨rfl, rfl⟩, ⟨⟨rfl, rfl⟩, ⟨⟨rfl, rfl⟩, ⟨⟨rfl, rfl⟩, trivial⟩⟩⟩⟩⟩⟩, trivial, rfl, rfl, rfl⟩, ?_⟩
        · (try dsimp only); exact Nat.zero_le _
        rintro j hk
        obtain hj : j ≤ x.length := hk
        (try dsimp only)
        have hxl2 := len_e1 x
        by_cases hjl : j < x.length
        · obtain ⟨y, hy⟩ := getElem_some hjl
          obtain ⟨y0, y1⟩ := (hm x (List.mem_of_getElem? hx)).2 y (List.mem_of_getElem? hy)
          repeat' ((conv => whnf); first | (refine ⟨fun h => ?_, fun h => ?_⟩ <;> try (exfalso; first | omega | exact absurd h (by decide) | exact h rfl | exact absurd (show true = false from h) (by decide) | exact absurd (show false = true from h) (by decide))) | (refine ⟨by omega, fun r hrr => ?_⟩; first | ((have hre : r = encR x := by (first | exact get_row hrr hx | fail)); subst hre) | ((have hre : r = e1 y := by (first | exact get_row hrr hy | fail)); subst hre)) | (refine ⟨j + 1, ⟨?_, by (try dsimp only); omega⟩, [], ⟨⟨rfl, rfl⟩, ⟨⟨rfl, rfl⟩, ⟨⟨rfl, rfl⟩, ⟨⟨rfl, rfl⟩, ⟨⟨rfl, rfl⟩, ⟨⟨rfl, rfl⟩, trivial⟩⟩⟩⟩⟩⟩, trivial, rfl, rfl, rfl⟩; (try dsimp only); omega) | refine ⟨⟨by omega, by omega⟩, ?_⟩ | fail)
        · repeat' ((conv => whnf); first | (refine ⟨fun h => ?_, fun h => ?_⟩ <;> try (exfalso; first | omega | exact absurd h (by decide) | exact h rfl | exact absurd (show true = false from h) (by decide) | exact absurd (show false = true from h) (by decide))) | (refine ⟨k + 1, ⟨?_, by (try dsimp only); omega⟩, [], ⟨⟨rfl, rfl⟩, ⟨⟨rfl, rfl⟩, ⟨⟨rfl, rfl⟩, trivial⟩⟩⟩, trivial, rfl, rfl, rfl⟩; (try dsimp only); omega) | refine ⟨⟨by omega, by omega⟩, ?_⟩ | fail)
      · repeat' ((conv => whnf); first | (refine ⟨fun h => ?_, fun h => ?_⟩ <;> try (exfalso; first | omega | exact absurd h (by decide) | exact h rfl | exact absurd (show true = false from h) (by decide) | exact absurd (show false = true from h) (by decide))) | fail | fail)
        all_goals (refine ⟨[], rfl, trivial, congrArg (CV.int .i64) ?_⟩; exact (rfl).symm)
theorem aright_h : Holds Try.prog 72 arightS := holds_of mix Try.func72 arightLow (fun _ => rfl) arightV

/-! skiarea/skiarearef08.Right -/
def rarightIr : IFn := ⟨81, [.tmp 2],
  (.seq (.ops [
    ⟨(some 2), .mov, [.const (.int .i64 0)], none⟩] false)
  (.seq (.seq (.ops [
    ⟨(some 7), .mov, [.tmp 0], none⟩,
    ⟨(some 8), .len, [.tmp 7], none⟩,
    ⟨(some 9), .cmp .gtr, [.tmp 8, .const (.int .i64 8)], none⟩] false)
  (.cond (.tmp 9)
    (.seq (.ops [
      ⟨(some 2), .mov, [.const (.int .i64 4)], none⟩] false)
    .ret)
    .skip))
  (.seq (.seq (.ops [
    ⟨(some 3), .mov, [.const (.int .i64 0)], none⟩] false)
  (.block 0
    (.loop
      (.seq (.seq (.ops [
        ⟨(some 10), .mov, [.tmp 3], none⟩,
        ⟨(some 11), .mov, [.tmp 0], none⟩,
        ⟨(some 12), .len, [.tmp 11], none⟩,
        ⟨(some 13), .cmp .lss, [.tmp 10, .tmp 12], none⟩] false)
      (.cond (.tmp 13)
        .skip
        (.exit 0)))
      (.seq (.block 1
        (.seq (.ops [
          ⟨(some 16), .mov, [.tmp 0], none⟩,
          ⟨(some 17), .mov, [.tmp 3], none⟩,
          ⟨(some 18), .idx 1, [.tmp 16, .tmp 17], none⟩,
          ⟨(some 19), .load 1 false, [.tmp 18], none⟩,
          ⟨(some 20), .len, [.tmp 19], none⟩,
          ⟨(some 21), .cmp .gtr, [.tmp 20, .const (.int .i64 8)], none⟩] false)
        (.cond (.tmp 21)
          (.seq (.ops [
            ⟨(some 2), .mov, [.const (.int .i64 4)], none⟩] false)
          .ret)
          .skip)))
      (.ops [
        ⟨(some 14), .mov, [.tmp 3], none⟩,
        ⟨(some 15), .bin .add .i64 false, [.tmp 14, .const (.int .i64 1)], none⟩,
        ⟨(some 3), .mov, [.tmp 15], none⟩] false))))))
  (.seq (.seq (.ops [
    ⟨(some 4), .mov, [.const (.int .i64 0)], none⟩] false)
  (.block 2
    (.loop
      (.seq (.seq (.ops [
        ⟨(some 22), .mov, [.tmp 4], none⟩,
        ⟨(some 23), .mov, [.tmp 0], none⟩,
        ⟨(some 24), .len, [.tmp 23], none⟩,
        ⟨(some 25), .cmp .lss, [.tmp 22, .tmp 24], none⟩] false)
      (.cond (.tmp 25)
        .skip
        (.exit 2)))
      (.seq (.block 3
        (.seq (.ops [
          ⟨(some 28), .mov, [.tmp 0], none⟩,
          ⟨(some 29), .mov, [.tmp 4], none⟩,
          ⟨(some 30), .idx 1, [.tmp 28, .tmp 29], none⟩,
          ⟨(some 31), .load 1 false, [.tmp 30], none⟩,
          ⟨(some 32), .len, [.tmp 31], none⟩,
          ⟨(some 33), .mov, [.tmp 0], none⟩,
          ⟨(some 34), .idx 1, [.tmp 33, .const (.int .i64 0)], none⟩,
          ⟨(some 35), .load 1 false, [.tmp 34], none⟩,
          ⟨(some 36), .len, [.tmp 35], none⟩,
          ⟨(some 37), .cmp .neq, [.tmp 32, .tmp 36], none⟩,
          ⟨(some 38), .mov, [.tmp 37], none⟩,
          ⟨(some 39), .mov, [.tmp 0], (some (38, false))⟩,
          ⟨(some 40), .mov, [.tmp 4], (some (38, false))⟩,
          ⟨(some 41), .idx 1, [.tmp 39, .tmp 40], (some (38, false))⟩,
          ⟨(some 42), .load 1 false, [.tmp 41], (some (38, false))⟩,
          ⟨(some 43), .len, [.tmp 42], (some (38, false))⟩,
          ⟨(some 44), .mov, [.tmp 0], (some (38, false))⟩,
          ⟨(some 45), .len, [.tmp 44], (some (38, false))⟩,
          ⟨(some 46), .cmp .lss, [.tmp 43, .tmp 45], (some (38, false))⟩,
          ⟨(some 47), .pick, [.tmp 38, .const (.bool true), .tmp 46], none⟩] true)
        (.cond (.tmp 47)
          (.seq (.ops [
            ⟨(some 2), .mov, [.const (.int .i64 3)], none⟩] false)
          .ret)
          .skip)))
      (.ops [
        ⟨(some 26), .mov, [.tmp 4], none⟩,
        ⟨(some 27), .bin .add .i64 false, [.tmp 26, .const (.int .i64 1)], none⟩,
        ⟨(some 4), .mov, [.tmp 27], none⟩] false))))))
  (.seq (.seq (.ops [
    ⟨(some 5), .mov, [.const (.int .i64 0)], none⟩] false)
  (.block 4
    (.loop
      (.seq (.seq (.ops [
        ⟨(some 48), .mov, [.tmp 5], none⟩,
        ⟨(some 49), .mov, [.tmp 0], none⟩,
        ⟨(some 50), .len, [.tmp 49], none⟩,
        ⟨(some 51), .cmp .lss, [.tmp 48, .tmp 50], none⟩] false)
      (.cond (.tmp 51)
        .skip
        (.exit 4)))
      (.seq (.block 5
        (.seq (.ops [
          ⟨(some 6), .mov, [.const (.int .i64 0)], none⟩] false)
        (.block 6
          (.loop
            (.seq (.seq (.ops [
              ⟨(some 54), .mov, [.tmp 6], none⟩,
              ⟨(some 55), .mov, [.tmp 0], none⟩,
              ⟨(some 56), .mov, [.tmp 5], none⟩,
              ⟨(some 57), .idx 1, [.tmp 55, .tmp 56], none⟩,
              ⟨(some 58), .load 1 false, [.tmp 57], none⟩,
              ⟨(some 59), .len, [.tmp 58], none⟩,
              ⟨(some 60), .cmp .lss, [.tmp 54, .tmp 59], none⟩] false)
            (.cond (.tmp 60)
              .skip
              (.exit 6)))
            (.seq (.block 7
              (.seq (.ops [
                ⟨(some 63), .mov, [.tmp 0], none⟩,
                ⟨(some 64), .mov, [.tmp 5], none⟩,
                ⟨(some 65), .idx 1, [.tmp 63, .tmp 64], none⟩,
                ⟨(some 66), .load 1 false, [.tmp 65], none⟩,
                ⟨(some 67), .mov, [.tmp 6], none⟩,
                ⟨(some 68), .idx 1, [.tmp 66, .tmp 67], none⟩,
                ⟨(some 69), .load 1 false, [.tmp 68], none⟩,
                ⟨(some 70), .cmp .lss, [.tmp 69, .const (.int .i64 0)], none⟩,
                ⟨(some 71), .mov, [.tmp 70], none⟩,
                ⟨(some 72), .mov, [.tmp 0], (some (71, false))⟩,
                ⟨(some 73), .mov, [.tmp 5], (some (71, false))⟩,
                ⟨(some 74), .idx 1, [.tmp 72, .tmp 73], (some (71, false))⟩,
                ⟨(some 75), .load 1 false, [.tmp 74], (some (71, false))⟩,
                ⟨(some 76), .mov, [.tmp 6], (some (71, false))⟩,
                ⟨(some 77), .idx 1, [.tmp 75, .tmp 76], (some (71, false))⟩,
                ⟨(some 78), .load 1 false, [.tmp 77], (some (71, false))⟩,
                ⟨(some 79), .cmp .gtr, [.tmp 78, .const (.int .i64 1000000)], (some (71, false))⟩,
                ⟨(some 80), .pick, [.tmp 71, .const (.bool true), .tmp 79], none⟩] false)
              (.cond (.tmp 80)
                (.seq (.ops [
                  ⟨(some 2), .mov, [.const (.int .i64 2)], none⟩] false)
                .ret)
                .skip)))
            (.ops [
              ⟨(some 61), .mov, [.tmp 6], none⟩,
              ⟨(some 62), .bin .add .i64 false, [.tmp 61, .const (.int .i64 1)], none⟩,
              ⟨(some 6), .mov, [.tmp 62], none⟩] false)))))))
      (.ops [
        ⟨(some 52), .mov, [.tmp 5], none⟩,
        ⟨(some 53), .bin .add .i64 false, [.tmp 52, .const (.int .i64 1)], none⟩,
        ⟨(some 5), .mov, [.tmp 53], none⟩] false))))))
  (.seq (.ops [
    ⟨(some 2), .mov, [.const (.int .i64 0)], none⟩] false)
  .ret))))))⟩
theorem rarightLow : lowF Try.prog {} Try.f81 = some rarightIr := by kernel_rfl
def rarightS : Spec := spec (Nat × List (List Int)) (fun p => [L 1 (p.2.map encR)]) (fun p => GoodM p.1 p.2) (fun _ => I 0)
theorem rarightV : fnV Try.prog rarightIr rarightS := by
  intro ⟨(c : Nat), (m : List (List Int))⟩ hg
  obtain ⟨⟨h1, h2⟩, hm⟩ : (m.length ≤ c ∧ c ≤ 8) ∧ OkM c m := hg
  have hl : (m.map encR).length = m.length := List.length_map ..
  show vc _ _ _ _ ⟨argEnv 0 [L 1 (m.map encR)], [], 0⟩
  repeat' ((conv => whnf); first | (refine ⟨fun h => ?_, fun h => ?_⟩ <;> try (exfalso; first | omega | exact absurd h (by decide) | exact h rfl | exact absurd (show true = false from h) (by decide) | exact absurd (show false = true from h) (by decide))) | fail | fail)
  refine ⟨Nat, fun xq => ⟨[(0, L 1 (m.map encR)), (3, I xq)], [], 0⟩, fun xq => xq ≤ m.length, fun xq => m.length - xq, ⟨0, ?_, [], ⟨⟨rfl, rfl⟩, ⟨⟨rfl, rfl⟩, trivial⟩⟩, trivial, rfl, rfl, rfl⟩, ?_⟩
  · (try dsimp only); exact Nat.zero_le _
  rintro k hk
  obtain hk : k ≤ m.length := hk
  (try dsimp only)
  by_cases hkl : k < m.length
  · obtain ⟨x, hx⟩ := getElem_some hkl
    obtain ⟨x0, hx0⟩ := getElem_some (show 0 < m.length by omega)
    have hxl : (x.map e1).length = c := (len_e1 x).trans (hm x (List.mem_of_getElem? hx)).1
    have hxl0 : (x0.map e1).length = c := (len_e1 x0).trans (hm x0 (List.mem_of_getElem? hx0)).1
    repeat' ((conv => whnf); first | (refine ⟨fun h => ?_, fun h => ?_⟩ <;> try (exfalso; first | omega | exact absurd h (by decide) | exact h rfl | exact absurd (show true = false from h) (by decide) | exact absurd (show false = true from h) (by decide))) | (refine ⟨by omega, fun r hrr => ?_⟩; first | ((have hre : r = encR x := by (first | exact get_row hrr hx | fail)); subst hre)) | (refine ⟨k + 1, ⟨?_, by (try dsimp only); omega⟩, [], ⟨⟨rfl, rfl⟩, ⟨⟨rfl, rfl⟩, trivial⟩⟩, trivial, rfl, rfl, rfl⟩; (try dsimp only); omega) | refine ⟨⟨by omega, by omega⟩, ?_⟩ | fail)
  · repeat' ((conv => whnf); first | (refine ⟨fun h => ?_, fun h => ?_⟩ <;> try (exfalso; first | omega | exact absurd h (by decide) | exact h rfl | exact absurd (show true = false from h) (by decide) | exact absurd (show false = true from h) (by decide))) | fail | fail)
    refine ⟨Nat, fun xq => ⟨[(0, L 1 (m.map encR)), (4, I xq)], [], 0⟩, fun xq => xq ≤ m.length, fun xq => m.length - xq, ⟨0, ?_, [], ⟨⟨rfl, rfl⟩, ⟨⟨rfl, rfl⟩, trivial⟩⟩, trivial, rfl, rfl, rfl⟩, ?_⟩
    · (try dsimp only); exact Nat.zero_le _
    rintro k hk
    obtain hk : k ≤ m.length := hk
    (try dsimp only)
    by_cases hkl : k < m.length
    · obtain ⟨x, hx⟩ := getElem_some hkl
      obtain ⟨x0, hx0⟩ := getElem_some (show 0 < m.length by omega)
      have hxl : (x.map e1).length = c := (len_e1 x).trans (hm x (List.mem_of_getElem? hx)).1
      have hxl0 : (x0.map e1).length = c := (len_e1 x0).trans (hm x0 (List.mem_of_getElem? hx0)).1
      repeat' ((conv => whnf); first | (refine ⟨fun h => ?_, fun h => ?_⟩ <;> try (exfalso; first | omega | exact absurd h (by decide) | exact h rfl | exact absurd (show true = false from h) (by decide) | exact absurd (show false = true from h) (by decide))) | (refine ⟨by omega, fun r hrr => ?_⟩; first | ((have hre : r = encR x := by (first | exact get_row hrr hx | fail)); subst hre) | ((have hre : r = encR x0 := by (first | exact get_rowi (j := 0) hrr (by omega) hx0 | fail)); subst hre)) | (refine ⟨k + 1, ⟨?_, by (try dsimp only); omega⟩, [], ⟨⟨rfl, rfl⟩, ⟨⟨rfl, rfl⟩, trivial⟩⟩, trivial, rfl, rfl, rfl⟩; (try dsimp only); omega) | refine ⟨⟨by omega, by omega⟩, ?_⟩ | fail)
    · repeat' ((conv => whnf); first | (refine ⟨fun h => ?_, fun h => ?_⟩ <;> try (exfalso; first | omega | exact absurd h (by decide) | exact h rfl | exact absurd (show true = false from h) (by decide) | exact absurd (show false = true from h) (by decide))) | fail | fail)
      refine ⟨Nat, fun xq => ⟨[(0, L 1 (m.map encR)), (5, I xq)], [], 0⟩, fun xq => xq ≤ m.length, fun xq => m.length - xq, ⟨0, ?_, [], ⟨⟨rfl, rfl⟩, ⟨⟨rfl, rfl⟩, trivial⟩⟩, trivial, rfl, rfl, rfl⟩, ?_⟩
      · (try dsimp only); exact Nat.zero_le _
      rintro k hk
      obtain hk : k ≤ m.length := hk
      (try dsimp only)
      by_cases hkl : k < m.length
      · obtain ⟨x, hx⟩ := getElem_some hkl
        obtain ⟨x0, hx0⟩ := getElem_some (show 0 < m.length by omega)
        have hxl : (x.map e1).length = c := (len_e1 x).trans (hm x (List.mem_of_getElem? hx)).1
        have hxl0 : (x0.map e1).length = c := (len_e1 x0).trans (hm x0 (List.mem_of_getElem? hx0)).1
        repeat' ((conv => whnf); first | (refine ⟨fun h => ?_, fun h => ?_⟩ <;> try (exfalso; first | omega | exact absurd h (by decide) | exact h rfl | exact absurd (show true = false from h) (by decide) | exact absurd (show false = true from h) (by decide))) | (refine ⟨by omega, fun r hrr => ?_⟩; first | ((have hre : r = encR x := by (first | exact get_row hrr hx | fail)); subst hre)) | fail | fail)
        refine ⟨Nat, fun xq => ⟨[(0, L 1 (m.map encR)), (5, I k), (6, I xq)], [], 0⟩, fun xq => xq ≤ x.length, fun xq => x.length - xq, ⟨0, ?_, [], ⟨⟨rfl, rfl⟩, ⟨⟨rfl, rfl⟩, ⟨⟨rfl, rfl⟩, trivial⟩⟩⟩, trivial, rfl, rfl, rfl⟩, ?_⟩
        · (try dsimp only); exact Nat.zero_le _
        rintro j hk
        obtain hj : j ≤ x.length := hk
        (try dsimp only)
        have hxl2 := len_e1 x
        by_cases hjl : j < x.length
        · obtain ⟨y, hy⟩ := getElem_some hjl
          obtain ⟨y0, y1⟩ := (hm x (List.mem_of_getElem? hx)).2 y (List.mem_of_getElem? hy)
          repeat' ((conv => whnf); first | (refine ⟨fun h => ?_, fun h => ?_⟩ <;> try (exfalso; first | omega | exact absurd h (by decide) | exact h rfl | exact absurd (show true = false from h) (by decide) | exact absurd (show false = true from h) (by decide))) | (refine ⟨by omega, fun r hrr => ?_⟩; first | ((have hre : r = encR x := by (first | exact get_row hrr hx | fail)); subst hre) | ((have hre : r = e1 y := by (first | exact get_row hrr hy | fail)); subst hre)) | (refine ⟨j + 1, ⟨?_, by (try dsimp only); omega⟩, [], ⟨⟨rfl, rfl⟩, ⟨⟨rfl, rfl⟩, ⟨⟨rfl, rfl⟩, trivial⟩⟩⟩, trivial, rfl, rfl, rfl⟩; (try dsimp only); omega) | refine ⟨⟨by omega, by omega⟩, ?_⟩ | fail)
        · repeat' ((conv => whnf); first | (refine ⟨fun h => ?_, fun h => ?_⟩ <;> try (exfalso; first | omega | exact absurd h (by decide) | exact h rfl | exact absurd (show true = false from h) (by decide) | exact absurd (show false = true from h) (by decide))) | (refine ⟨by omega, fun r hrr => ?_⟩; first | ((have hre : r = encR x := by (first | exact get_row hrr hx | fail)); subst hre)) | (refine ⟨k + 1, ⟨?_, by (try dsimp only); omega⟩, [], ⟨⟨rfl, rfl⟩, ⟨⟨rfl, rfl⟩, trivial⟩⟩, trivial, rfl, rfl, rfl⟩; (try dsimp only); omega) | refine ⟨⟨by omega, by omega⟩, ?_⟩ | fail)
      · repeat' ((conv => whnf); first | (refine ⟨fun h => ?_, fun h => ?_⟩ <;> try (exfalso; first | omega | exact absurd h (by decide) | exact h rfl | exact absurd (show true = false from h) (by decide) | exact absurd (show false = true from h) (by decide))) | fail | fail)
        all_goals (refine ⟨[], rfl, trivial, congrArg (CV.int .i64) ?_⟩; exact (rfl).symm)
theorem raright_h : Holds Try.prog 81 rarightS := holds_of mix Try.func81 rarightLow (fun _ => rfl) rarightV

/-! slices.Index[[]int,int] -/
def indexIr : IFn := ⟨19, [.tmp 4],
  (.seq (.ops [
    ⟨(some 4), .mov, [.const (.int .i64 0)], none⟩] false)
  (.seq (.seq (.ops [
    ⟨(some 6), .mov, [.tmp 0], none⟩,
    ⟨(some 7), .len, [.tmp 6], none⟩,
    ⟨(some 8), .mov, [.const (.int .i64 0)], none⟩] false)
  (.block 0
    (.loop
      (.seq (.ops [
        ⟨(some 9), .cmp .lss, [.tmp 8, .tmp 7], none⟩] false)
      (.seq (.cond (.tmp 9)
        .skip
        (.exit 0))
      (.seq (.block 1
        (.seq (.ops [
          ⟨(some 10), .mov, [.tmp 8], none⟩,
          ⟨(some 5), .mov, [.tmp 10], none⟩] false)
        (.seq (.ops [
          ⟨(some 11), .mov, [.tmp 1], none⟩,
          ⟨(some 12), .mov, [.tmp 0], none⟩,
          ⟨(some 13), .mov, [.tmp 5], none⟩,
          ⟨(some 14), .idx 1, [.tmp 12, .tmp 13], none⟩,
          ⟨(some 15), .load 1 false, [.tmp 14], none⟩,
          ⟨(some 16), .cmp .eql, [.tmp 11, .tmp 15], none⟩] false)
        (.cond (.tmp 16)
          (.seq (.ops [
            ⟨(some 17), .mov, [.tmp 5], none⟩,
            ⟨(some 4), .mov, [.tmp 17], none⟩] false)
          .ret)
          .skip))))
      (.ops [
        ⟨(some 18), .bin .add .i64 false, [.tmp 8, .const (.int .i64 1)], none⟩,
        ⟨(some 8), .mov, [.tmp 18], none⟩] false)))))))
  (.seq (.ops [
    ⟨(some 4), .mov, [.const (.int .i64 (-1))], none⟩] false)
  .ret)))⟩
theorem indexLow : lowF Try.prog {} Try.f94 = some indexIr := by kernel_rfl
def indexS : Spec := spec (List Int × Int) (fun p => [L 1 (p.1.map e1), I p.2]) (fun p => p.1.length ≤ 1000000) (fun p => I (ixF (fun y => decide (y = p.2)) p.1))
theorem indexV : fnV Try.prog indexIr indexS := by
  intro ⟨(l : List Int), (n : Int)⟩ hl0
  replace hl0 : l.length ≤ 1000000 := hl0
  have hl : (l.map e1).length = l.length := List.length_map ..
  show vc _ _ _ _ ⟨argEnv 0 [L 1 (l.map e1), I n], [], 0⟩
  conv => whnf
  refine ⟨Nat, fun xq => ⟨[(0, L 1 (l.map e1)), (1, I n), (7, I (l.map e1).length), (8, I xq)], [], 0⟩, fun xq => xq ≤ l.length ∧ ∀ y ∈ l.take xq, decide (y = n) = false, fun xq => l.length - xq, ⟨0, ?_, [], ⟨⟨rfl, rfl⟩, ⟨⟨rfl, rfl⟩, ⟨⟨rfl, rfl⟩, ⟨⟨rfl, rfl⟩, trivial⟩⟩⟩⟩, trivial, rfl, rfl, rfl⟩, ?_⟩
  · (try dsimp only); exact ⟨Nat.zero_le _, by simp⟩
  rintro k hk
  obtain ⟨hk, h0⟩ : k ≤ l.length ∧ ∀ y ∈ l.take k, decide (y = n) = false := hk
  (try dsimp only)
  by_cases hkl : k < l.length
  · obtain ⟨x, hx⟩ := getElem_some hkl
    by_cases hp : x = n
    · repeat' ((conv => whnf); first | (refine ⟨fun h => ?_, fun h => ?_⟩ <;> try (exfalso; first | omega | exact absurd h (by decide) | exact h rfl | exact absurd (show true = false from h) (by decide) | exact absurd (show false = true from h) (by decide))) | (refine ⟨by omega, fun r hrr => ?_⟩; first | ((have hre : r = e1 x := by (first | exact get_row hrr hx | fail)); subst hre)) | fail | fail)
      all_goals (refine ⟨[], rfl, trivial, congrArg (CV.int .i64) ?_⟩; exact (ix_hit hx h0 (decide_eq_true hp)).symm)
    · repeat' ((conv => whnf); first | (refine ⟨fun h => ?_, fun h => ?_⟩ <;> try (exfalso; first | omega | exact absurd h (by decide) | exact h rfl | exact absurd (show true = false from h) (by decide) | exact absurd (show false = true from h) (by decide))) | (refine ⟨by omega, fun r hrr => ?_⟩; first | ((have hre : r = e1 x := by (first | exact get_row hrr hx | fail)); subst hre)) | (refine ⟨k + 1, ⟨?_, by (try dsimp only); omega⟩, [], ⟨⟨rfl, rfl⟩, ⟨⟨rfl, rfl⟩, ⟨⟨rfl, rfl⟩, ⟨⟨rfl, rfl⟩, trivial⟩⟩⟩⟩, trivial, rfl, rfl, rfl⟩; (try dsimp only); exact ⟨by omega, first_step hx h0 (decide_eq_false hp)⟩) | refine ⟨⟨by omega, by omega⟩, ?_⟩ | fail)
  · rw [take_end hkl] at h0
    repeat' ((conv => whnf); first | (refine ⟨fun h => ?_, fun h => ?_⟩ <;> try (exfalso; first | omega | exact absurd h (by decide) | exact h rfl | exact absurd (show true = false from h) (by decide) | exact absurd (show false = true from h) (by decide))) | fail | fail)
    all_goals (refine ⟨[], rfl, trivial, congrArg (CV.int .i64) ?_⟩; exact (ix_none h0).symm)
theorem index_h : Holds Try.prog 94 indexS := holds_of mix Try.func94 indexLow (fun _ => rfl) indexV

/-! slices.Contains[[]int,int] -/
def contIr : IFn := ⟨9, [.tmp 4],
  (.seq (.ops [
    ⟨(some 4), .mov, [.const (.bool false)], none⟩] false)
  (.seq (.ops [
    ⟨(some 5), .mov, [.tmp 0], none⟩,
    ⟨(some 6), .mov, [.tmp 1], none⟩,
    ⟨(some 7), .call 94, [.tmp 5, .tmp 6], none⟩,
    ⟨(some 8), .cmp .geq, [.tmp 7, .const (.int .i64 0)], none⟩,
    ⟨(some 4), .mov, [.tmp 8], none⟩] false)
  .ret))⟩
theorem contLow : lowF Try.prog {} Try.f75 = some contIr := by kernel_rfl
def contS : Spec := spec (List Int × Int) (fun p => [L 1 (p.1.map e1), I p.2]) (fun p => p.1.length ≤ 1000000) (fun p => B (decide (p.2 ∈ p.1)))
theorem contV : fnV Try.prog contIr contS := by
  intro ⟨(l : List Int), (n : Int)⟩ hl0
  show vc _ _ _ _ ⟨argEnv 0 [L 1 (l.map e1), I n], [], 0⟩
  rcases ix_cases (fun y => decide (y = n)) l with ⟨h1, h2⟩ | ⟨k, y, h1, hy, hp, _, h2⟩
  · have hm : ¬ n ∈ l := fun h => absurd (List.any_eq_false.1 h2 n h) (by simp)
    repeat' ((conv => whnf); first | (refine ⟨fun h => ?_, fun h => ?_⟩ <;> try (exfalso; first | omega | exact absurd h (by decide) | exact h rfl | exact absurd (show true = false from h) (by decide) | exact absurd (show false = true from h) (by decide))) | (refine ⟨_, index_h, (l, n), hl0, leVs_of_eq rfl, .inl rfl, rfl, ?_⟩; show norm (I (ixF (fun y => decide (y = n)) l)) _; rw [h1]) | fail | fail)
    all_goals (refine ⟨[], rfl, trivial, congrArg CV.bool ?_⟩; exact (decide_eq_false hm).symm)
  · have hm : n ∈ l := by have := List.mem_of_getElem? hy; rwa [of_decide_eq_true hp] at this
    repeat' ((conv => whnf); first | (refine ⟨fun h => ?_, fun h => ?_⟩ <;> try (exfalso; first | omega | exact absurd h (by decide) | exact h rfl | exact absurd (show true = false from h) (by decide) | exact absurd (show false = true from h) (by decide))) | (refine ⟨_, index_h, (l, n), hl0, leVs_of_eq rfl, .inl rfl, rfl, ?_⟩; show norm (I (ixF (fun y => decide (y = n)) l)) _; rw [h1]) | fail | fail)
    all_goals (refine ⟨[], rfl, trivial, congrArg CV.bool ?_⟩; exact (decide_eq_true hm).symm)
theorem cont_h : Holds Try.prog 75 contS := holds_of mix Try.func75 contLow (fun _ => rfl) contV
def clonGS : GSpec := ⟨List Int, fun p => [.row 3 1 (p.map e1)], fun _ => [.osl 0], fun p => p.length ≤ 1000000, fun _ => .osl 1, fun p => [.row 3 1 (p.map e1)], fun p => [.row 3 1 (p.map e1)]⟩

/-! slices.Clone[[]int,int] -/
def clonGIr : IFn := ⟨8, [.tmp 2],
  (.seq (.ops [
    ⟨(some 2), .nilOwn 3 1, [], none⟩] false)
  (.seq (.seq (.ops [
    ⟨(some 3), .mov, [.tmp 0], none⟩,
    ⟨(some 4), .isnil false, [.tmp 3], none⟩] false)
  (.cond (.tmp 4)
    (.seq (.ops [
      ⟨(some 2), .nilOwn 3 1, [], none⟩] false)
    .ret)
    .skip))
  (.seq (.ops [
    ⟨(some 5), .buildOwn 3 1, [], none⟩,
    ⟨(some 6), .mov, [.tmp 0], none⟩,
    ⟨(some 7), .append 3 1 8, [.tmp 5, .tmp 6], none⟩,
    ⟨(some 2), .mov, [.tmp 7], none⟩] false)
  .ret)))⟩
theorem clonGLow : lowF Try.prog { owns := [(2, 3), (5, 3)] } Try.f74 = some clonGIr := by kernel_rfl
theorem clonGV : fnG Try.prog clonGIr clonGS := by
  intro (p : List Int) hp
  replace hp : p.length ≤ 1000000 := hp
  have hl : (p.map e1).length = p.length := List.length_map ..
  show vc _ _ _ _ ⟨argEnv 0 [.osl 0], idxFrom 0 [.row 3 1 (p.map e1)], 1⟩
  conv => whnf
  refine ⟨fun h => ?_, ?_⟩
  · conv => whnf
    exact ⟨[2], rfl, rfl, ⟨⟨rfl, rfl⟩, ⟨by show some (Ob.row 3 1 []) = some (Ob.row 3 1 (p.map e1)); rw [h], rfl⟩, trivial⟩, rfl, rfl⟩
  · conv => whnf
    refine ⟨⟨by simp; omega, by simp; omega⟩, ?_⟩
    conv => whnf
    exact ⟨[3], rfl, rfl, ⟨⟨rfl, rfl⟩, ⟨rfl, rfl⟩, trivial⟩, rfl, rfl⟩
theorem clonG_g : HoldsG Try.prog 74 clonGS := holdsG_of mix Try.func74 clonGLow (fun _ => rfl) clonGV
abbrev costS (s : Found) : Int := (s.map (·.1)).getD 0
abbrev bestS (s : Found) : CV := match s with
  | none => .nil
  | some (_, q) => .sl 1 (q.map e1)
structure TryX where
  c : Nat
  m : List (List Int)
  p : List Int
  t : Int
  s : Found
def TryX.ok (d : Nat) (x : TryX) : Prop := (GoodM x.c x.m ∧ x.p.length ≤ x.m.length ∧ x.m.length - x.p.length ≤ d) ∧ 0 ≤ x.t ∧ x.t ≤ 1000000 * x.p.length
abbrev TryX.res (x : TryX) : Found := tryF x.c (x.m.drop x.p.length) x.p x.t x.s
abbrev tryCaps : List SV := [.bp 0 0, .bp 1 0, .bp 2 0, .bp 3 0, .bp 4 0, .bp 5 0]
abbrev tryObs (s : Found) (i : Nat) (m : List (List Int)) : List Ob := [.box [.c (.bool s.isSome)], .box [.c (.int .i64 (costS s))], .box [.osl i], .box [L 1 (m.map encR)], .box [.c (bestS s)], .box [.fn 73 tryCaps]]
def tryS (d : Nat) : GSpec := ⟨TryX, fun x => [.box [.c (.bool x.s.isSome)], .box [.c (.int .i64 (costS x.s))], .box [.osl 6], .box [L 1 (x.m.map encR)], .box [.c (bestS x.s)], .box [.fn 73 tryCaps], .row 3 1 (x.p.map e1)], fun x => [I x.t, .bp 0 0, .bp 1 0, .bp 2 0, .bp 3 0, .bp 4 0, .bp 5 0], TryX.ok d, fun _ => .tup [],
  fun x => [.box [.c (.bool x.res.isSome)], .box [.c (.int .i64 (costS x.res))], .box [.osl 7], .box [L 1 (x.m.map encR)], .box [.c (bestS x.res)], .box [.fn 73 tryCaps], .dead], fun x => [.row 3 1 (x.p.map e1)]⟩
theorem try_call : callable Try.prog 73 = true := by kernel_rfl

/-! skiarea/assign.Best$1 -/
def tryIr : IFn := ⟨54, [],
  (.seq (.seq (.ops [
    ⟨(some 10), .load 1 false, [.tmp 1], none⟩,
    ⟨(some 11), .mov, [.tmp 10], none⟩,
    ⟨(some 12), .mov, [.tmp 0], (some (11, true))⟩,
    ⟨(some 13), .load 1 false, [.tmp 2], (some (11, true))⟩,
    ⟨(some 14), .cmp .geq, [.tmp 12, .tmp 13], (some (11, true))⟩,
    ⟨(some 15), .pick, [.tmp 11, .tmp 14, .const (.bool false)], none⟩] false)
  (.cond (.tmp 15)
    .ret
    .skip))
  (.seq (.seq (.ops [
    ⟨(some 16), .load 1 false, [.tmp 3], none⟩,
    ⟨(some 17), .len, [.tmp 16], none⟩,
    ⟨(some 18), .load 1 false, [.tmp 4], none⟩,
    ⟨(some 19), .len, [.tmp 18], none⟩,
    ⟨(some 20), .cmp .eql, [.tmp 17, .tmp 19], none⟩] false)
  (.cond (.tmp 20)
    (.seq (.seq (.ops [
      ⟨(some 21), .load 1 false, [.tmp 3], none⟩,
      ⟨(some 22), .callg 74, [.tmp 21], none⟩,
      ⟨(some 23), .mov, [.tmp 0], none⟩,
      ⟨none, .store 1, [.tmp 5, .tmp 22], none⟩,
      ⟨none, .store 1, [.tmp 2, .tmp 23], none⟩,
      ⟨none, .store 1, [.tmp 1, .const (.bool true)], none⟩] false)
    (.seq (.sealc 22)
    .skip))
    .ret)
    .skip))
  (.seq (.ops [
    ⟨(some 24), .load 1 false, [.tmp 4], none⟩,
    ⟨(some 25), .load 1 false, [.tmp 3], none⟩,
    ⟨(some 26), .len, [.tmp 25], none⟩,
    ⟨(some 27), .idx 1, [.tmp 24, .tmp 26], none⟩,
    ⟨(some 28), .load 1 false, [.tmp 27], none⟩,
    ⟨(some 29), .len, [.tmp 28], none⟩,
    ⟨(some 30), .mov, [.const (.int .i64 0)], none⟩] false)
  (.block 0
    (.loop
      (.seq (.ops [
        ⟨(some 31), .cmp .lss, [.tmp 30, .tmp 29], none⟩] false)
      (.seq (.cond (.tmp 31)
        .skip
        (.exit 0))
      (.seq (.block 1
        (.seq (.ops [
          ⟨(some 32), .mov, [.tmp 30], none⟩,
          ⟨(some 33), .idx 1, [.tmp 28, .tmp 30], none⟩,
          ⟨(some 34), .load 1 false, [.tmp 33], none⟩,
          ⟨(some 8), .mov, [.tmp 32], none⟩,
          ⟨(some 9), .mov, [.tmp 34], none⟩] false)
        (.seq (.ops [
          ⟨(some 35), .load 1 false, [.tmp 3], none⟩,
          ⟨(some 36), .mov, [.tmp 8], none⟩,
          ⟨(some 37), .call 75, [.tmp 35, .tmp 36], none⟩,
          ⟨(some 38), .not, [.tmp 37], none⟩] false)
        (.cond (.tmp 38)
          (.seq (.ops [
            ⟨(some 39), .load 1 false, [.tmp 3], none⟩,
            ⟨(some 40), .mov, [.tmp 8], none⟩,
            ⟨(some 41), .buildSl 3 1, [.tmp 40], none⟩,
            ⟨(some 42), .append 3 1 8, [.tmp 39, .tmp 41], none⟩,
            ⟨none, .store 1, [.tmp 3, .tmp 42], none⟩] false)
          (.seq (.ops [
            ⟨(some 43), .load 1 false, [.tmp 6], none⟩,
            ⟨(some 44), .mov, [.tmp 0], none⟩,
            ⟨(some 45), .mov, [.tmp 9], none⟩,
            ⟨(some 46), .bin .add .i64 false, [.tmp 44, .tmp 45], none⟩,
            ⟨(some 47), .callvg, [.tmp 43, .tmp 46], none⟩] false)
          (.ops [
            ⟨(some 48), .load 1 false, [.tmp 3], none⟩,
            ⟨(some 49), .load 1 false, [.tmp 3], none⟩,
            ⟨(some 50), .len, [.tmp 49], none⟩,
            ⟨(some 51), .bin .sub .i64 false, [.tmp 50, .const (.int .i64 1)], none⟩,
            ⟨(some 52), .cutO 1, [.tmp 48, .tmp 51], none⟩,
            ⟨none, .store 1, [.tmp 3, .tmp 52], none⟩] false)))
          .skip))))
      (.ops [
        ⟨(some 53), .bin .add .i64 false, [.tmp 30, .const (.int .i64 1)], none⟩,
        ⟨(some 30), .mov, [.tmp 53], none⟩] false)))))))))⟩
theorem tryLow : lowF Try.prog { gvs := [22, 47], sealb := [(21, 22)], cuts := [52] } Try.f73 = some tryIr := by kernel_rfl
theorem cut_eq (p : List Int) (k : Int) {a : Int} (ha : a = ((p ++ [k]).map e1).length) : ((p ++ [k]).map e1).take (a - 1).toNat = p.map e1 := by
  have : (a - 1).toNat = (p.map e1).length := by rw [ha]; simp
  rw [this, List.map_append, List.take_left]
set_option maxHeartbeats 2000000 in
theorem tryV (d : Nat) (ih : ∀ d', d' < d → HoldsG Try.prog 73 (tryS d')) : fnG Try.prog tryIr (tryS d) := by
  intro ⟨(c : Nat), (m : List (List Int)), (p : List Int), (t : Int), (s : Found)⟩ hx
  obtain ⟨⟨hg, hp, hd⟩, ht0, ht1⟩ : (GoodM c m ∧ p.length ≤ m.length ∧ m.length - p.length ≤ d) ∧ 0 ≤ t ∧ t ≤ 1000000 * p.length := hx
  obtain ⟨⟨hc1, hc2⟩, hok⟩ := hg
  have hl : (m.map encR).length = m.length := List.length_map ..
  have hlp : (p.map e1).length = p.length := List.length_map ..
  show vc _ _ _ _ ⟨argEnv 0 [I t, .bp 0 0, .bp 1 0, .bp 2 0, .bp 3 0, .bp 4 0, .bp 5 0], idxFrom 0 [.box [.c (.bool s.isSome)], .box [.c (.int .i64 (costS s))], .box [.osl 6], .box [L 1 (m.map encR)], .box [.c (bestS s)], .box [.fn 73 tryCaps], .row 3 1 (p.map e1)], 7⟩
  obtain ⟨s1, hs1⟩ : ∃ s1, tryF c (m.drop p.length) p t s = s1 := ⟨_, rfl⟩
  cases hsk : skipB s t with
  | true =>
    have hR : s = tryF c (m.drop p.length) p t s := by
      cases m.drop p.length with
      | nil => rw [tryF, if_pos hsk]
      | cons row rest => rw [tryF, if_pos hsk]
    cases s with
    | none => cases hsk
    | some bq =>
      obtain ⟨b, q⟩ := bq
      have hb : b ≤ t := of_decide_eq_true hsk
      have hcs : costS (some (b, q)) = b := rfl
      repeat' ((conv => whnf); first | (refine ⟨fun h => ?_, fun h => ?_⟩ <;> try (exfalso; first | omega | exact absurd h (by decide) | exact h rfl | exact absurd (show true = false from h) (by decide) | exact absurd (show false = true from h) (by decide))) | fail | fail)
      exact ⟨[6], rfl, rfl, ⟨⟨congrArg (fun z : Found => some (Ob.box [.c (.bool z.isSome)])) hR, rfl⟩, ⟨congrArg (fun z : Found => some (Ob.box [.c (.int .i64 (costS z))])) hR, rfl⟩, ⟨rfl, rfl⟩, ⟨rfl, rfl⟩, ⟨congrArg (fun z : Found => some (Ob.box [.c (bestS z)])) hR, rfl⟩, ⟨rfl, rfl⟩, ⟨rfl, rfl⟩, trivial⟩, trivial⟩
  | false =>
    have hns : ∀ b q, s = some (b, q) → ¬ b ≤ t := fun b q e => by subst e; exact of_decide_eq_false hsk
    by_cases hpm : p.length = m.length
    · have hR : some (t, p) = tryF c (m.drop p.length) p t s := by
        rw [List.drop_eq_nil_of_le (by omega), tryF, if_neg (by rw [hsk]; decide)]
      have hcs : ∀ b q, costS (some (b, q)) = b := fun _ _ => rfl
      cases s with
      | none =>
        repeat' ((conv => whnf); first | (refine ⟨fun h => ?_, fun h => ?_⟩ <;> try (exfalso; first | omega | exact absurd h (by decide) | exact h rfl | exact absurd (show true = false from h) (by decide) | exact absurd (show false = true from h) (by decide))) | (refine ⟨[6], _, clonG_g, p, (by show p.length ≤ 1000000; omega), ⟨⟨⟨rfl,rfl,rfl⟩,trivial⟩,rfl,rfl,rfl⟩, ⟨⟨rfl,rfl⟩,trivial⟩, .inl rfl, ⟨⟨⟨⟨rfl, rfl⟩, by simp⟩, trivial⟩, trivial⟩, ?_⟩) | fail | fail)
        exact ⟨[6], rfl, rfl, ⟨⟨congrArg (fun z : Found => some (Ob.box [.c (.bool z.isSome)])) hR, rfl⟩, ⟨congrArg (fun z : Found => some (Ob.box [.c (.int .i64 (costS z))])) hR, rfl⟩, ⟨rfl, rfl⟩, ⟨rfl, rfl⟩, ⟨congrArg (fun z : Found => some (Ob.box [.c (bestS z)])) hR, rfl⟩, ⟨rfl, rfl⟩, ⟨rfl, rfl⟩, trivial⟩, trivial⟩
      | some bq =>
        obtain ⟨b, q⟩ := bq
        have hb := hns b q rfl
        have hcs := hcs b q
        repeat' ((conv => whnf); first | (refine ⟨fun h => ?_, fun h => ?_⟩ <;> try (exfalso; first | omega | exact absurd h (by decide) | exact h rfl | exact absurd (show true = false from h) (by decide) | exact absurd (show false = true from h) (by decide))) | (refine ⟨[6], _, clonG_g, p, (by show p.length ≤ 1000000; omega), ⟨⟨⟨rfl,rfl,rfl⟩,trivial⟩,rfl,rfl,rfl⟩, ⟨⟨rfl,rfl⟩,trivial⟩, .inl rfl, ⟨⟨⟨⟨rfl, rfl⟩, by simp⟩, trivial⟩, trivial⟩, ?_⟩) | fail | fail)
        exact ⟨[6], rfl, rfl, ⟨⟨congrArg (fun z : Found => some (Ob.box [.c (.bool z.isSome)])) hR, rfl⟩, ⟨congrArg (fun z : Found => some (Ob.box [.c (.int .i64 (costS z))])) hR, rfl⟩, ⟨rfl, rfl⟩, ⟨rfl, rfl⟩, ⟨congrArg (fun z : Found => some (Ob.box [.c (bestS z)])) hR, rfl⟩, ⟨rfl, rfl⟩, ⟨rfl, rfl⟩, trivial⟩, trivial⟩
    · obtain ⟨row, hrow⟩ := getElem_some (show p.length < m.length by omega)
      have hrow' : m[(p.map e1).length]? = some row := by rw [hlp]; exact hrow
      obtain ⟨hrl, hrx⟩ := hok row (List.mem_of_getElem? hrow)
      have hlr : (row.map e1).length = row.length := List.length_map ..
      have hR : colsF (fun (k : Nat) s' => tryF c (m.drop (p.length + 1)) (p ++ [(k : Int)]) (t + row.getD k 0) s') p s c = tryF c (m.drop p.length) p t s := by
        have hd : m.drop p.length = row :: m.drop (p.length + 1) := by
          obtain ⟨hlt, he⟩ := List.getElem?_eq_some_iff.1 hrow
          rw [← he]; exact List.drop_eq_getElem_cons hlt
        rw [hd, tryF, if_neg (by rw [hsk]; decide)]
      obtain ⟨g, hg⟩ : ∃ g : Nat → Found → Found, (fun (k : Nat) s' => tryF c (m.drop (p.length + 1)) (p ++ [(k : Int)]) (t + row.getD k 0) s') = g := ⟨_, rfl⟩
      rw [hg] at hR
      have hcs : ∀ b q, s = some (b, q) → costS s = b := fun b q e => by subst e; rfl
      cases s with
      | none =>
        repeat' ((conv => whnf); first | (refine ⟨fun h => ?_, fun h => ?_⟩ <;> try (exfalso; first | omega | exact absurd h (by decide) | exact h rfl | exact absurd (show true = false from h) (by decide) | exact absurd (show false = true from h) (by decide))) | (refine ⟨by omega, fun r hrr => ?_⟩; first | ((have hre : r = encR row := by (first | exact get_row hrr hrow' | fail)); subst hre)) | fail | fail)
        refine ⟨Nat × Found × (List (List CV)), fun xq => ⟨[(0, I t), (3, .bp 2 0), (6, .bp 5 0), (28, L 1 (row.map e1)), (29, I (row.map e1).length), (30, I xq.1)], [(0, .box [.c (.bool (xq.2.1).isSome)]), (1, .box [.c (.int .i64 (costS xq.2.1))]), (2, .box [.osl 7]), (3, .box [L 1 (m.map encR)]), (4, .box [.c (bestS xq.2.1)]), (5, .box [.fn 73 tryCaps]), (7, .row 3 1 xq.2.2)], 8⟩, fun xq => xq.1 ≤ c ∧ xq.2.1 = colsF g p (none) xq.1 ∧ xq.2.2 = p.map e1, fun xq => c - xq.1, ⟨(0, none, p.map e1), ?_, [(7, 6)], ⟨⟨rfl, rfl⟩, ⟨⟨rfl, rfl⟩, ⟨⟨rfl, rfl⟩, ⟨⟨rfl, rfl⟩, ⟨⟨rfl, rfl⟩, ⟨⟨rfl, rfl⟩, trivial⟩⟩⟩⟩⟩⟩, ⟨⟨rfl, rfl, rfl⟩, ⟨⟨rfl, rfl, rfl⟩, ⟨⟨rfl, rfl, rfl⟩, ⟨⟨rfl, rfl, rfl⟩, ⟨⟨rfl, rfl, rfl⟩, ⟨⟨rfl, rfl, rfl⟩, ⟨⟨rfl, rfl, rfl⟩, trivial⟩⟩⟩⟩⟩⟩⟩, rfl, rfl, rfl⟩, ?_⟩
        · (try dsimp only); exact ⟨Nat.zero_le _, rfl, rfl⟩
        rintro ⟨k, z, es⟩ hk
        obtain ⟨hk, hz, rfl⟩ : k ≤ c ∧ z = colsF g p (none) k ∧ es = p.map e1 := hk
        (try dsimp only)
        by_cases hkl : k < c
        · obtain ⟨x, hx⟩ := getElem_some (show k < row.length by omega)
          obtain ⟨x0, x1⟩ := hrx x (List.mem_of_getElem? hx)
          have hgd : row.getD k 0 = x := by rw [List.getD_eq_getElem?_getD, hx]; rfl
          by_cases hkp : (k : Int) ∈ p
          · have hk' : decide ((k : Int) ∈ p) = true := decide_eq_true hkp
            have hst : colsF g p (none) (k + 1) = colsF g p (none) k := by rw [colsF, if_pos hkp]
            repeat' ((conv => whnf); first | (refine ⟨fun h => ?_, fun h => ?_⟩ <;> try (exfalso; first | omega | exact absurd h (by decide) | exact h rfl | exact absurd (show true = false from h) (by decide) | exact absurd (show false = true from h) (by decide))) | (refine ⟨by omega, fun r hrr => ?_⟩; first | ((have hre : r = e1 x := by (first | exact get_row hrr hx | fail)); subst hre)) | (refine ⟨_, cont_h, (p, (k : Int)), (by show p.length ≤ 1000000; omega), leVs_of_eq rfl, .inr rfl, rfl, ?_⟩; show norm (B (decide ((k : Int) ∈ p))) _; rw [hk']) | (refine ⟨(k + 1, z, _), ⟨?_, by (try dsimp only); omega⟩, [], ⟨⟨rfl, rfl⟩, ⟨⟨rfl, rfl⟩, ⟨⟨rfl, rfl⟩, ⟨⟨rfl, rfl⟩, ⟨⟨rfl, rfl⟩, ⟨⟨rfl, rfl⟩, trivial⟩⟩⟩⟩⟩⟩, ⟨⟨rfl, rfl, rfl⟩, ⟨⟨rfl, rfl, rfl⟩, ⟨⟨rfl, rfl, rfl⟩, ⟨⟨rfl, rfl, rfl⟩, ⟨⟨rfl, rfl, rfl⟩, ⟨⟨rfl, rfl, rfl⟩, ⟨⟨rfl, rfl, rfl⟩, trivial⟩⟩⟩⟩⟩⟩⟩, rfl, rfl, rfl⟩; (try dsimp only); exact ⟨by omega, hz.trans hst.symm, rfl⟩) | refine ⟨⟨by omega, by omega⟩, ?_⟩ | fail | fail)
          · have hk' : decide ((k : Int) ∈ p) = false := decide_eq_false hkp
            have hst : colsF g p (none) (k + 1) = tryF c (m.drop (p.length + 1)) (p ++ [(k : Int)]) (t + x) z := by rw [colsF, if_neg hkp, ← hz, ← hgd, ← hg]
            have hlap : (p ++ [(k : Int)]).length = p.length + 1 := by simp
            have hap : (p.map e1) ++ [[CV.int .i64 (k : Int)]] = (p ++ [(k : Int)]).map e1 := (List.map_append (f := e1) (l₁ := p) (l₂ := [(k : Int)])).symm
            have hlap2 : ((p ++ [(k : Int)]).map e1).length = p.length + 1 := by rw [List.length_map, hlap]
            have hz2 : tryF c (m.drop (p ++ [(k : Int)]).length) (p ++ [(k : Int)]) (t + x) z = colsF g p (none) (k + 1) := by rw [hlap]; exact hst.symm
            have hih := ih (m.length - p.length - 1) (by omega)
            have hpre : (tryS (m.length - p.length - 1)).pre ⟨c, m, p ++ [(k : Int)], t + x, z⟩ := by
              refine ⟨⟨⟨⟨hc1, hc2⟩, hok⟩, ?_, ?_⟩, ?_, ?_⟩ <;> (try dsimp only) <;> omega
            repeat' ((conv => whnf); first | (refine ⟨fun h => ?_, fun h => ?_⟩ <;> try (exfalso; first | omega | exact absurd h (by decide) | exact h rfl | exact absurd (show true = false from h) (by decide) | exact absurd (show false = true from h) (by decide))) | (refine ⟨by omega, fun r hrr => ?_⟩; first | ((have hre : r = e1 x := by (first | exact get_row hrr hx | fail)); subst hre)) | (refine ⟨_, cont_h, (p, (k : Int)), (by show p.length ≤ 1000000; omega), leVs_of_eq rfl, .inr rfl, rfl, ?_⟩; show norm (B (decide ((k : Int) ∈ p))) _; rw [hk']) | ((refine And.intro (by with_reducible exact try_call) ?_; refine ⟨[0, 1, 2, 3, 4, 5, 8], _, hih, ⟨c, m, p ++ [(k : Int)], t + x, z⟩, hpre, ⟨⟨⟨rfl, rfl, rfl⟩, ⟨rfl, rfl, rfl⟩, ⟨rfl, rfl, rfl⟩, ⟨rfl, rfl, rfl⟩, ⟨rfl, rfl, rfl⟩, ⟨rfl, rfl, rfl⟩, ⟨congrArg (fun es => some (Ob.row 3 1 es)) hap, rfl, rfl⟩, trivial⟩, rfl, rfl, rfl⟩, ⟨rfl, ⟨rfl, rfl⟩, ⟨rfl, rfl⟩, ⟨rfl, rfl⟩, ⟨rfl, rfl⟩, ⟨rfl, rfl⟩, ⟨rfl, rfl⟩, trivial⟩, .inl rfl, ⟨⟨trivial, trivial, trivial, trivial, trivial, trivial, trivial, trivial⟩, trivial⟩, ?_⟩); show norm (.tup []) _) | refine ⟨⟨by simp; omega, by simp; omega⟩, ?_⟩ | refine ⟨⟨by omega, by omega⟩, ?_⟩ | (refine ⟨⟨by dsimp only; omega, by dsimp only; omega⟩, ?_⟩) | (refine ⟨(k + 1, tryF c (m.drop (p ++ [(k : Int)]).length) (p ++ [(k : Int)]) (t + x) z, ((p ++ [(k : Int)]).map e1).take (((((p ++ [(k : Int)]).map e1).length : Nat) : Int) - 1).toNat), ⟨?_, by (try dsimp only); omega⟩, [(7, 10)], ⟨⟨rfl, rfl⟩, ⟨⟨rfl, rfl⟩, ⟨⟨rfl, rfl⟩, ⟨⟨rfl, rfl⟩, ⟨⟨rfl, rfl⟩, ⟨⟨rfl, rfl⟩, trivial⟩⟩⟩⟩⟩⟩, ⟨⟨rfl, rfl, rfl⟩, ⟨⟨rfl, rfl, rfl⟩, ⟨⟨rfl, rfl, rfl⟩, ⟨⟨rfl, rfl, rfl⟩, ⟨⟨rfl, rfl, rfl⟩, ⟨⟨rfl, rfl, rfl⟩, ⟨⟨rfl, rfl, rfl⟩, trivial⟩⟩⟩⟩⟩⟩⟩, rfl, rfl, rfl⟩; (try dsimp only); exact ⟨by omega, hz2, cut_eq p k rfl⟩) | fail | fail)
        · repeat' ((conv => whnf); first | (refine ⟨fun h => ?_, fun h => ?_⟩ <;> try (exfalso; first | omega | exact absurd h (by decide) | exact h rfl | exact absurd (show true = false from h) (by decide) | exact absurd (show false = true from h) (by decide))) | fail | fail)
          have hkc : k = c := by omega
          subst hkc
          subst hz
          exact ⟨[7], rfl, rfl, ⟨⟨congrArg (fun z : Found => some (Ob.box [.c (.bool z.isSome)])) hR, rfl⟩, ⟨congrArg (fun z : Found => some (Ob.box [.c (.int .i64 (costS z))])) hR, rfl⟩, ⟨rfl, rfl⟩, ⟨rfl, rfl⟩, ⟨congrArg (fun z : Found => some (Ob.box [.c (bestS z)])) hR, rfl⟩, ⟨rfl, rfl⟩, ⟨rfl, rfl⟩, trivial⟩, trivial⟩
      | some bq =>
        obtain ⟨b, q⟩ := bq
        have hb := hns b q rfl
        have hcs := hcs b q rfl
        repeat' ((conv => whnf); first | (refine ⟨fun h => ?_, fun h => ?_⟩ <;> try (exfalso; first | omega | exact absurd h (by decide) | exact h rfl | exact absurd (show true = false from h) (by decide) | exact absurd (show false = true from h) (by decide))) | (refine ⟨by omega, fun r hrr => ?_⟩; first | ((have hre : r = encR row := by (first | exact get_row hrr hrow' | fail)); subst hre)) | fail | fail)
        refine ⟨Nat × Found × (List (List CV)), fun xq => ⟨[(0, I t), (3, .bp 2 0), (6, .bp 5 0), (28, L 1 (row.map e1)), (29, I (row.map e1).length), (30, I xq.1)], [(0, .box [.c (.bool (xq.2.1).isSome)]), (1, .box [.c (.int .i64 (costS xq.2.1))]), (2, .box [.osl 7]), (3, .box [L 1 (m.map encR)]), (4, .box [.c (bestS xq.2.1)]), (5, .box [.fn 73 tryCaps]), (7, .row 3 1 xq.2.2)], 8⟩, fun xq => xq.1 ≤ c ∧ xq.2.1 = colsF g p (some (b, q)) xq.1 ∧ xq.2.2 = p.map e1, fun xq => c - xq.1, ⟨(0, some (b, q), p.map e1), ?_, [(7, 6)], ⟨⟨rfl, rfl⟩, ⟨⟨rfl, rfl⟩, ⟨⟨rfl, rfl⟩, ⟨⟨rfl, rfl⟩, ⟨⟨rfl, rfl⟩, ⟨⟨rfl, rfl⟩, trivial⟩⟩⟩⟩⟩⟩, ⟨⟨rfl, rfl, rfl⟩, ⟨⟨rfl, rfl, rfl⟩, ⟨⟨rfl, rfl, rfl⟩, ⟨⟨rfl, rfl, rfl⟩, ⟨⟨rfl, rfl, rfl⟩, ⟨⟨rfl, rfl, rfl⟩, ⟨⟨rfl, rfl, rfl⟩, trivial⟩⟩⟩⟩⟩⟩⟩, rfl, rfl, rfl⟩, ?_⟩
        · (try dsimp only); exact ⟨Nat.zero_le _, rfl, rfl⟩
        rintro ⟨k, z, es⟩ hk
        obtain ⟨hk, hz, rfl⟩ : k ≤ c ∧ z = colsF g p (some (b, q)) k ∧ es = p.map e1 := hk
        (try dsimp only)
        by_cases hkl : k < c
        · obtain ⟨x, hx⟩ := getElem_some (show k < row.length by omega)
          obtain ⟨x0, x1⟩ := hrx x (List.mem_of_getElem? hx)
          have hgd : row.getD k 0 = x := by rw [List.getD_eq_getElem?_getD, hx]; rfl
          by_cases hkp : (k : Int) ∈ p
          · have hk' : decide ((k : Int) ∈ p) = true := decide_eq_true hkp
            have hst : colsF g p (some (b, q)) (k + 1) = colsF g p (some (b, q)) k := by rw [colsF, if_pos hkp]
            repeat' ((conv => whnf); first | (refine ⟨fun h => ?_, fun h => ?_⟩ <;> try (exfalso; first | omega | exact absurd h (by decide) | exact h rfl | exact absurd (show true = false from h) (by decide) | exact absurd (show false = true from h) (by decide))) | (refine ⟨by omega, fun r hrr => ?_⟩; first | ((have hre : r = e1 x := by (first | exact get_row hrr hx | fail)); subst hre)) | (refine ⟨_, cont_h, (p, (k : Int)), (by show p.length ≤ 1000000; omega), leVs_of_eq rfl, .inr rfl, rfl, ?_⟩; show norm (B (decide ((k : Int) ∈ p))) _; rw [hk']) | (refine ⟨(k + 1, z, _), ⟨?_, by (try dsimp only); omega⟩, [], ⟨⟨rfl, rfl⟩, ⟨⟨rfl, rfl⟩, ⟨⟨rfl, rfl⟩, ⟨⟨rfl, rfl⟩, ⟨⟨rfl, rfl⟩, ⟨⟨rfl, rfl⟩, trivial⟩⟩⟩⟩⟩⟩, ⟨⟨rfl, rfl, rfl⟩, ⟨⟨rfl, rfl, rfl⟩, ⟨⟨rfl, rfl, rfl⟩, ⟨⟨rfl, rfl, rfl⟩, ⟨⟨rfl, rfl, rfl⟩, ⟨⟨rfl, rfl, rfl⟩, ⟨⟨rfl, rfl, rfl⟩, trivial⟩⟩⟩⟩⟩⟩⟩, rfl, rfl, rfl⟩; (try dsimp only); exact ⟨by omega, hz.trans hst.symm, rfl⟩) | refine ⟨⟨by omega, by omega⟩, ?_⟩ | fail | fail)
          · have hk' : decide ((k : Int) ∈ p) = false := decide_eq_false hkp
            have hst : colsF g p (some (b, q)) (k + 1) = tryF c (m.drop (p.length + 1)) (p ++ [(k : Int)]) (t + x) z := by rw [colsF, if_neg hkp, ← hz, ← hgd, ← hg]
            have hlap : (p ++ [(k : Int)]).length = p.length + 1 := by simp
            have hap : (p.map e1) ++ [[CV.int .i64 (k : Int)]] = (p ++ [(k : Int)]).map e1 := (List.map_append (f := e1) (l₁ := p) (l₂ := [(k : Int)])).symm
            have hlap2 : ((p ++ [(k : Int)]).map e1).length = p.length + 1 := by rw [List.length_map, hlap]
            have hz2 : tryF c (m.drop (p ++ [(k : Int)]).length) (p ++ [(k : Int)]) (t + x) z = colsF g p (some (b, q)) (k + 1) := by rw [hlap]; exact hst.symm
            have hih := ih (m.length - p.length - 1) (by omega)
            have hpre : (tryS (m.length - p.length - 1)).pre ⟨c, m, p ++ [(k : Int)], t + x, z⟩ := by
              refine ⟨⟨⟨⟨hc1, hc2⟩, hok⟩, ?_, ?_⟩, ?_, ?_⟩ <;> (try dsimp only) <;> omega
            repeat' ((conv => whnf); first | (refine ⟨fun h => ?_, fun h => ?_⟩ <;> try (exfalso; first | omega | exact absurd h (by decide) | exact h rfl | exact absurd (show true = false from h) (by decide) | exact absurd (show false = true from h) (by decide))) | (refine ⟨by omega, fun r hrr => ?_⟩; first | ((have hre : r = e1 x := by (first | exact get_row hrr hx | fail)); subst hre)) | (refine ⟨_, cont_h, (p, (k : Int)), (by show p.length ≤ 1000000; omega), leVs_of_eq rfl, .inr rfl, rfl, ?_⟩; show norm (B (decide ((k : Int) ∈ p))) _; rw [hk']) | ((refine And.intro (by with_reducible exact try_call) ?_; refine ⟨[0, 1, 2, 3, 4, 5, 8], _, hih, ⟨c, m, p ++ [(k : Int)], t + x, z⟩, hpre, ⟨⟨⟨rfl, rfl, rfl⟩, ⟨rfl, rfl, rfl⟩, ⟨rfl, rfl, rfl⟩, ⟨rfl, rfl, rfl⟩, ⟨rfl, rfl, rfl⟩, ⟨rfl, rfl, rfl⟩, ⟨congrArg (fun es => some (Ob.row 3 1 es)) hap, rfl, rfl⟩, trivial⟩, rfl, rfl, rfl⟩, ⟨rfl, ⟨rfl, rfl⟩, ⟨rfl, rfl⟩, ⟨rfl, rfl⟩, ⟨rfl, rfl⟩, ⟨rfl, rfl⟩, ⟨rfl, rfl⟩, trivial⟩, .inl rfl, ⟨⟨trivial, trivial, trivial, trivial, trivial, trivial, trivial, trivial⟩, trivial⟩, ?_⟩); show norm (.tup []) _) | refine ⟨⟨by simp; omega, by simp; omega⟩, ?_⟩ | refine ⟨⟨by omega, by omega⟩, ?_⟩ | (refine ⟨⟨by dsimp only; omega, by dsimp only; omega⟩, ?_⟩) | (refine ⟨(k + 1, tryF c (m.drop (p ++ [(k : Int)]).length) (p ++ [(k : Int)]) (t + x) z, ((p ++ [(k : Int)]).map e1).take (((((p ++ [(k : Int)]).map e1).length : Nat) : Int) - 1).toNat), ⟨?_, by (try dsimp only); omega⟩, [(7, 10)], ⟨⟨rfl, rfl⟩, ⟨⟨rfl, rfl⟩, ⟨⟨rfl, rfl⟩, ⟨⟨rfl, rfl⟩, ⟨⟨rfl, rfl⟩, ⟨⟨rfl, rfl⟩, trivial⟩⟩⟩⟩⟩⟩, ⟨⟨rfl, rfl, rfl⟩, ⟨⟨rfl, rfl, rfl⟩, ⟨⟨rfl, rfl, rfl⟩, ⟨⟨rfl, rfl, rfl⟩, ⟨⟨rfl, rfl, rfl⟩, ⟨⟨rfl, rfl, rfl⟩, ⟨⟨rfl, rfl, rfl⟩, trivial⟩⟩⟩⟩⟩⟩⟩, rfl, rfl, rfl⟩; (try dsimp only); exact ⟨by omega, hz2, cut_eq p k rfl⟩) | fail | fail)
        · repeat' ((conv => whnf); first | (refine ⟨fun h => ?_, fun h => ?_⟩ <;> try (exfalso; first | omega | exact absurd h (by decide) | exact h rfl | exact absurd (show true = false from h) (by decide) | exact absurd (show false = true from h) (by decide))) | fail | fail)
          have hkc : k = c := by omega
          subst hkc
          subst hz
          exact ⟨[7], rfl, rfl, ⟨⟨congrArg (fun z : Found => some (Ob.box [.c (.bool z.isSome)])) hR, rfl⟩, ⟨congrArg (fun z : Found => some (Ob.box [.c (.int .i64 (costS z))])) hR, rfl⟩, ⟨rfl, rfl⟩, ⟨rfl, rfl⟩, ⟨congrArg (fun z : Found => some (Ob.box [.c (bestS z)])) hR, rfl⟩, ⟨rfl, rfl⟩, ⟨rfl, rfl⟩, trivial⟩, trivial⟩
theorem try_g : ∀ d, HoldsG Try.prog 73 (tryS d) := fun d => Nat.strongRecOn d fun d ih => holdsG_of mix Try.func73 tryLow (fun _ => rfl) (tryV d ih)
theorem best_res {c : Nat} {m : List (List Int)} (h : GoodM c m) : (TryX.mk c m [] 0 none).res = some (minF c m 0, greedy c m 0) := by
  show tryF c (m.drop 0) [] 0 none = _
  obtain ⟨⟨h1, h2⟩, h3⟩ := h
  rw [List.drop_zero, try_spec h2 h3 MaskOf.nil (Nat.two_pow_pos c) (by unfold popF; simpa using h1)]
  show some (0 + minF c m 0, [] ++ greedy c m 0) = _
  rw [Int.zero_add, List.nil_append]

/-! skiarea/assign.Best -/
def asgIr : IFn := ⟨21, [.tmp 2, .tmp 3, .tmp 4],
  (.seq (.ops [
    ⟨(some 1), .box, [.tmp 0], none⟩,
    ⟨(some 2), .mov, [.const (.slice none 0 0)], none⟩,
    ⟨(some 3), .mov, [.const (.int .i64 0)], none⟩,
    ⟨(some 4), .mov, [.const (.int .i64 0)], none⟩] false)
  (.seq (.seq (.ops [
    ⟨(some 11), .load 1 false, [.tmp 1], none⟩,
    ⟨(some 12), .call 72, [.tmp 11], none⟩,
    ⟨(some 5), .mov, [.tmp 12], none⟩] false)
  (.seq (.ops [
    ⟨(some 13), .mov, [.tmp 5], none⟩,
    ⟨(some 14), .cmp .neq, [.tmp 13, .const (.int .i64 0)], none⟩] false)
  (.cond (.tmp 14)
    (.seq (.ops [
      ⟨(some 15), .mov, [.tmp 5], none⟩,
      ⟨(some 2), .mov, [.const (.slice none 0 0)], none⟩,
      ⟨(some 3), .mov, [.const (.int .i64 0)], none⟩,
      ⟨(some 4), .mov, [.tmp 15], none⟩] false)
    .ret)
    .skip)))
  (.seq (.ops [
    ⟨(some 6), .alloc [.nil], [], none⟩,
    ⟨(some 7), .allocN 3 1, [], none⟩] false)
  (.seq (.ops [
    ⟨(some 8), .alloc [.int .i64 0], [], none⟩,
    ⟨(some 9), .alloc [.bool false], [], none⟩,
    ⟨none, .store 1, [.tmp 8, .const (.int .i64 0)], none⟩,
    ⟨none, .store 1, [.tmp 9, .const (.bool false)], none⟩] false)
  (.seq (.ops [
    ⟨(some 10), .alloc [.raw .nilFunc], [], none⟩] false)
  (.seq (.ops [
    ⟨(some 16), .fn 73, [.tmp 9, .tmp 8, .tmp 7, .tmp 1, .tmp 6, .tmp 10], none⟩,
    ⟨none, .store 1, [.tmp 10, .tmp 16], none⟩] false)
  (.seq (.ops [
    ⟨(some 17), .load 1 false, [.tmp 10], none⟩,
    ⟨(some 18), .callvg, [.tmp 17, .const (.int .i64 0)], none⟩] false)
  (.seq (.ops [
    ⟨(some 19), .load 1 false, [.tmp 6], none⟩,
    ⟨(some 20), .load 1 false, [.tmp 8], none⟩,
    ⟨(some 2), .mov, [.tmp 19], none⟩,
    ⟨(some 3), .mov, [.tmp 20], none⟩,
    ⟨(some 4), .mov, [.const (.int .i64 0)], none⟩] true)
  .ret))))))))⟩
theorem asgLow : lowF Try.prog { owns := [(7, 3)], gvs := [18] } Try.f47 = some asgIr := by kernel_rfl
def asgS : Spec := spec (Nat × List (List Int)) (fun p => [L 1 (p.2.map encR)]) (fun p => GoodM p.1 p.2) (fun p => .tup [L 1 ((greedy p.1 p.2 0).map e1), I (minF p.1 p.2 0), I 0])
set_option maxHeartbeats 2000000 in
theorem asgV : fnV Try.prog asgIr asgS := by
  intro ⟨(c : Nat), (m : List (List Int))⟩ hg
  replace hg : GoodM c m := hg
  have hpre : (tryS m.length).pre ⟨c, m, [], 0, none⟩ := ⟨⟨hg, Nat.zero_le _, by show m.length - 0 ≤ m.length; omega⟩, Int.le_refl _, by show (0 : Int) ≤ 1000000 * (([] : List Int).length : Int); simp⟩
  have hfin : (tryS m.length).fin ⟨c, m, [], 0, none⟩ = [.box [.c (.bool true)], .box [.c (.int .i64 (minF c m 0))], .box [.osl 7], .box [L 1 (m.map encR)], .box [.c (.sl 1 ((greedy c m 0).map e1))], .box [.fn 73 tryCaps], .dead] := by
    show [Ob.box [.c (.bool (TryX.mk c m [] 0 none).res.isSome)], .box [.c (.int .i64 (costS (TryX.mk c m [] 0 none).res))], .box [.osl 7], .box [L 1 (m.map encR)], .box [.c (bestS (TryX.mk c m [] 0 none).res)], .box [.fn 73 tryCaps], .dead] = _
    rw [best_res hg]; rfl
  show vc _ _ _ _ ⟨argEnv 0 [L 1 (m.map encR)], [], 0⟩
  repeat' ((conv => whnf); first | (refine ⟨fun h => ?_, fun h => ?_⟩ <;> try (exfalso; first | omega | exact absurd h (by decide) | exact h rfl | exact absurd (show true = false from h) (by decide) | exact absurd (show false = true from h) (by decide))) | (refine ⟨_, aright_h, (c, m), hg, leVs_of_eq rfl, .inl rfl, rfl, ?_⟩; show norm (I 0) _) | (refine And.intro (by with_reducible exact try_call) ?_; dsimp only; refine ⟨[5, 4, 3, 0, 1, 6, 2], _, try_g m.length, ⟨c, m, [], 0, none⟩, hpre, ⟨⟨⟨rfl, rfl, rfl⟩, ⟨rfl, rfl, rfl⟩, ⟨rfl, rfl, rfl⟩, ⟨rfl, rfl, rfl⟩, ⟨rfl, rfl, rfl⟩, ⟨rfl, rfl, rfl⟩, ⟨rfl, rfl, rfl⟩, trivial⟩, rfl, rfl, rfl⟩, ⟨rfl, ⟨rfl, rfl⟩, ⟨rfl, rfl⟩, ⟨rfl, rfl⟩, ⟨rfl, rfl⟩, ⟨rfl, rfl⟩, ⟨rfl, rfl⟩, trivial⟩, .inl rfl, ⟨⟨trivial, trivial, trivial, trivial, trivial, trivial, trivial, trivial⟩, trivial⟩, ?_⟩; show norm (.tup []) _; rw [hfin]; dsimp only) | fail | fail)
  exact ⟨[], rfl, trivial, ⟨by first | exact leV_refl _ | rfl, by first | exact leV_refl _ | rfl, by first | exact leV_refl _ | rfl, trivial⟩⟩
theorem asg_h : Holds Try.prog 47 asgS := holds_of mix Try.func47 asgLow (fun _ => rfl) asgV

end Go.Proofs.Ytoeichkblclfaaa
