/- Split: slices.swapRange. -/
import Derived.Test.YtepacknnggnifaaF1
namespace Go.Proofs.Ytepacknnggnifaa
open Go.RowKit

structure SwX where
  rs : List Int
  P : List Int
  A : List Int
  M : List Int
  B : List Int
  S : List Int
def swapS : GSpec := ⟨SwX, fun x => [.row 3 1 ((x.P ++ (x.A ++ (x.M ++ (x.B ++ x.S)))).map e1)], fun x => [.osl 0, I x.P.length, I (x.P.length + x.A.length + x.M.length), I x.A.length, .fn 27 [.rp [.sl 1 (x.rs.map e1)]]],
  fun x => x.B.length = x.A.length ∧ (x.P ++ (x.A ++ (x.M ++ (x.B ++ x.S)))).length ≤ 1000000, fun _ => .tup [], fun x => [.row 3 1 ((x.P ++ (x.B ++ (x.M ++ (x.A ++ x.S)))).map e1)], fun _ => []⟩
theorem map_set1 (l : List Int) (i : Nat) (x : Int) : (l.map e1).set i [.int .i64 x] = (l.set i x).map e1 := by rw [List.map_set]
theorem get_e1 {l : List Int} {i : Nat} {x : Int} (h : l[i]? = some x) : (l.map e1)[i]? = some [.int .i64 x] := by rw [List.getElem?_map, h]; rfl

/-! slices.swapRangeCmpFunc[int] -/
def swapIr : IFn := ⟨38, [],
  (.seq (.ops [
    ⟨(some 10), .mov, [.const (.int .i64 0)], none⟩] false)
  (.block 0
    (.loop
      (.seq (.seq (.ops [
        ⟨(some 11), .mov, [.tmp 10], none⟩,
        ⟨(some 12), .mov, [.tmp 3], none⟩,
        ⟨(some 13), .cmp .lss, [.tmp 11, .tmp 12], none⟩] false)
      (.cond (.tmp 13)
        .skip
        (.exit 0)))
      (.seq (.block 1
        (.ops [
          ⟨(some 16), .mov, [.tmp 0], none⟩,
          ⟨(some 17), .mov, [.tmp 1], none⟩,
          ⟨(some 18), .mov, [.tmp 10], none⟩,
          ⟨(some 19), .bin .add .i64 false, [.tmp 17, .tmp 18], none⟩,
          ⟨(some 20), .mov, [.tmp 0], none⟩,
          ⟨(some 21), .mov, [.tmp 2], none⟩,
          ⟨(some 22), .mov, [.tmp 10], none⟩,
          ⟨(some 23), .bin .add .i64 false, [.tmp 21, .tmp 22], none⟩,
          ⟨(some 24), .mov, [.tmp 0], none⟩,
          ⟨(some 25), .mov, [.tmp 2], none⟩,
          ⟨(some 26), .mov, [.tmp 10], none⟩,
          ⟨(some 27), .bin .add .i64 false, [.tmp 25, .tmp 26], none⟩,
          ⟨(some 28), .idx 1, [.tmp 24, .tmp 27], none⟩,
          ⟨(some 29), .load 1 false, [.tmp 28], none⟩,
          ⟨(some 30), .mov, [.tmp 0], none⟩,
          ⟨(some 31), .mov, [.tmp 1], none⟩,
          ⟨(some 32), .mov, [.tmp 10], none⟩,
          ⟨(some 33), .bin .add .i64 false, [.tmp 31, .tmp 32], none⟩,
          ⟨(some 34), .idx 1, [.tmp 30, .tmp 33], none⟩,
          ⟨(some 35), .load 1 false, [.tmp 34], none⟩,
          ⟨(some 36), .idx 1, [.tmp 16, .tmp 19], none⟩,
          ⟨none, .store 1, [.tmp 36, .tmp 29], none⟩,
          ⟨(some 37), .idx 1, [.tmp 20, .tmp 23], none⟩,
          ⟨none, .store 1, [.tmp 37, .tmp 35], none⟩] true))
      (.ops [
        ⟨(some 14), .mov, [.tmp 10], none⟩,
        ⟨(some 15), .bin .add .i64 false, [.tmp 14, .const (.int .i64 1)], none⟩,
        ⟨(some 10), .mov, [.tmp 15], none⟩] false))))))⟩
theorem swapLow : lowF Try.prog {} Try.f63 = some swapIr := by kernel_rfl
theorem swapV : fnG Try.prog swapIr swapS := by
  intro ⟨rs, P, A, M, B, S⟩ hx
  obtain ⟨hBA, hlen⟩ : B.length = A.length ∧ (P ++ (A ++ (M ++ (B ++ S)))).length ≤ 1000000 := hx
  simp only [List.length_append] at hlen
  show vc _ _ _ _ ⟨argEnv 0 [.osl 0, I P.length, I (P.length + A.length + M.length), I A.length, .fn 27 [.rp [.sl 1 (rs.map e1)]]], idxFrom 0 [.row 3 1 ((P ++ (A ++ (M ++ (B ++ S)))).map e1)], 1⟩
  conv => whnf
  refine ⟨Nat × (List (List CV)), fun xq => ⟨[(0, .osl 0), (1, I P.length), (2, I (P.length + A.length + M.length)), (3, I A.length), (10, I xq.1)], [(0, .row 3 1 xq.2)], 1⟩, fun xq => ∃ A1 A2 B1 B2, (A = A1 ++ A2 ∧ B = B1 ++ B2) ∧ (A1.length = xq.1 ∧ B1.length = xq.1) ∧ xq.2 = (P ++ (B1 ++ (A2 ++ (M ++ (A1 ++ (B2 ++ S)))))).map e1, fun xq => A.length - xq.1, ⟨(0, _), ?_, [], ⟨⟨rfl, rfl⟩, ⟨⟨rfl, rfl⟩, ⟨⟨rfl, rfl⟩, ⟨⟨rfl, rfl⟩, ⟨⟨rfl, rfl⟩, trivial⟩⟩⟩⟩⟩, ⟨⟨rfl, rfl, rfl⟩, trivial⟩, rfl, rfl, rfl⟩, ?_⟩
  · (try dsimp only); exact ⟨[], A, [], B, ⟨rfl, rfl⟩, ⟨rfl, rfl⟩, rfl⟩
  rintro ⟨k, es⟩ hk
  obtain ⟨A1, A2, B1, B2, ⟨hA, hB⟩, ⟨l1, l2⟩, rfl⟩ : ∃ A1 A2 B1 B2, (A = A1 ++ A2 ∧ B = B1 ++ B2) ∧ (A1.length = k ∧ B1.length = k) ∧ es = (P ++ (B1 ++ (A2 ++ (M ++ (A1 ++ (B2 ++ S)))))).map e1 := hk
  (try dsimp only)
  have hAl : A.length = A1.length + A2.length := by rw [hA, List.length_append]
  have hBl : B.length = B1.length + B2.length := by rw [hB, List.length_append]
  by_cases hk : k < A.length
  · obtain ⟨x, A3, rfl⟩ := first_of (l := A2) (by omega)
    obtain ⟨y, B3, rfl⟩ := first_of (l := B2) (by omega)
    simp only [List.length_cons] at hAl hBl
    have hes : P ++ (B1 ++ (x :: A3 ++ (M ++ (A1 ++ (y :: B3 ++ S))))) = (P ++ B1) ++ x :: ((A3 ++ (M ++ A1)) ++ y :: (B3 ++ S)) := by simp
    have hes' : P ++ ((B1 ++ [y]) ++ (A3 ++ (M ++ ((A1 ++ [x]) ++ (B3 ++ S))))) = (P ++ B1) ++ y :: ((A3 ++ (M ++ A1)) ++ x :: (B3 ++ S)) := by simp
    rw [hes]
    have i1 : ((P.length : Int) + (k : Int)).toNat = (P ++ B1).length := by rw [List.length_append]; omega
    have i2 : ((P.length : Int) + A.length + M.length + (k : Int)).toNat = (P ++ B1).length + 1 + (A3 ++ (M ++ A1)).length := by simp only [List.length_append]; omega
    have hl1 : ((((P ++ B1) ++ x :: ((A3 ++ (M ++ A1)) ++ y :: (B3 ++ S))).map e1).length : Int) = P.length + A.length + M.length + B.length + S.length := by simp only [List.length_map, List.length_append, List.length_cons]; omega
    have g1 : (((P ++ B1) ++ x :: ((A3 ++ (M ++ A1)) ++ y :: (B3 ++ S))).map e1)[((P.length : Int) + (k : Int)).toNat]? = some [.int .i64 x] := get_e1 (by rw [i1]; exact get_mid _ _ _)
    have g2 : (((P ++ B1) ++ x :: ((A3 ++ (M ++ A1)) ++ y :: (B3 ++ S))).map e1)[((P.length : Int) + A.length + M.length + (k : Int)).toNat]? = some [.int .i64 y] := get_e1 (by rw [i2]; exact get_far _ _ _ _ _)
    have g3 : ((((P ++ B1) ++ x :: ((A3 ++ (M ++ A1)) ++ y :: (B3 ++ S))).map e1).set ((P.length : Int) + (k : Int)).toNat [.int .i64 y])[((P.length : Int) + A.length + M.length + (k : Int)).toNat]? = some [.int .i64 y] := by rw [List.getElem?_set_ne (by omega)]; exact g2
    have g4 : ((((P ++ B1) ++ x :: ((A3 ++ (M ++ A1)) ++ y :: (B3 ++ S))).map e1).set ((P.length : Int) + (k : Int)).toNat [.int .i64 y]).set ((P.length : Int) + A.length + M.length + (k : Int)).toNat [.int .i64 x] = (P ++ ((B1 ++ [y]) ++ (A3 ++ (M ++ ((A1 ++ [x]) ++ (B3 ++ S)))))).map e1 := by
      rw [map_set1, map_set1, i1, i2, swap_far, hes']
    generalize (((P ++ B1) ++ x :: ((A3 ++ (M ++ A1)) ++ y :: (B3 ++ S))).map e1) = cur at *
    repeat' ((conv => whnf); first | (refine ⟨fun h => ?_, fun h => ?_⟩ <;> try (exfalso; first | omega | exact absurd h (by decide) | exact h rfl)) | refine get_at g1 ?_ | refine get_at g2 ?_ | refine get_at g3 ?_ | (refine ⟨(k + 1, _), ⟨?_, by (try dsimp only); omega⟩, [], ⟨⟨rfl, rfl⟩, ⟨⟨rfl, rfl⟩, ⟨⟨rfl, rfl⟩, ⟨⟨rfl, rfl⟩, ⟨⟨rfl, rfl⟩, trivial⟩⟩⟩⟩⟩, ⟨⟨rfl, rfl, rfl⟩, trivial⟩, rfl, rfl, rfl⟩; (try dsimp only); exact ⟨A1 ++ [x], A3, B1 ++ [y], B3, ⟨by rw [hA]; simp, by rw [hB]; simp⟩, ⟨by rw [List.length_append, l1]; rfl, by rw [List.length_append, l2]; rfl⟩, g4⟩) | refine ⟨⟨by omega, by omega⟩, ?_⟩ | refine ⟨⟨by omega, by (rw [List.length_set]; omega)⟩, ?_⟩ | fail)
  · have hA2 : A2 = [] := List.eq_nil_of_length_eq_zero (by omega)
    have hB2 : B2 = [] := List.eq_nil_of_length_eq_zero (by omega)
    subst hA2; subst hB2
    rw [List.append_nil] at hA hB
    subst hA; subst hB
    repeat' ((conv => whnf); first | (refine ⟨fun h => ?_, fun h => ?_⟩ <;> try (exfalso; first | omega | exact absurd h (by decide) | exact h rfl)) | fail)
    refine ⟨[], rfl, rfl, ⟨⟨?_, rfl⟩, trivial⟩, trivial⟩
    rfl
theorem swap_g : HoldsG Try.prog 63 swapS := holdsG_of mix Try.func63 swapLow (fun _ => rfl) swapV

end Go.Proofs.Ytepacknnggnifaa
