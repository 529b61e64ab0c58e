/- Split: slices.rotate. -/
import Derived.Test.YtepacknnggnifaaF2
namespace Go.Proofs.Ytepacknnggnifaa
open Go.RowKit

theorem leI {a b : Int} (h : a = b) : leV (I a) (I b) := by subst h; exact leV_refl _
theorem cln1 (l : List Int) : ∀ r ∈ l.map e1, ∀ c ∈ r, c.scalar = true := by
  intro r hr c hc
  obtain ⟨x, _, rfl⟩ := List.mem_map.1 hr
  simp at hc; subst hc; rfl
structure RotX where
  rs : List Int
  P : List Int
  A : List Int
  B : List Int
  S : List Int
def rotS : GSpec := ⟨RotX, fun x => [.row 3 1 ((x.P ++ (x.A ++ (x.B ++ x.S))).map e1)], fun x => [.osl 0, I x.P.length, I (x.P.length + x.A.length), I (x.P.length + x.A.length + x.B.length), .fn 27 [.rp [.sl 1 (x.rs.map e1)]]],
  fun x => (0 < x.A.length ∧ 0 < x.B.length) ∧ (x.P ++ (x.A ++ (x.B ++ x.S))).length ≤ 1000000, fun _ => .tup [], fun x => [.row 3 1 ((x.P ++ (x.B ++ (x.A ++ x.S))).map e1)], fun _ => []⟩

/-! slices.rotateCmpFunc[int] -/
def rotIr : IFn := ⟨58, [],
  (.seq (.ops [
    ⟨(some 12), .mov, [.tmp 2], none⟩,
    ⟨(some 13), .mov, [.tmp 1], none⟩,
    ⟨(some 14), .bin .sub .i64 false, [.tmp 12, .tmp 13], none⟩,
    ⟨(some 10), .mov, [.tmp 14], none⟩] false)
  (.seq (.ops [
    ⟨(some 15), .mov, [.tmp 3], none⟩,
    ⟨(some 16), .mov, [.tmp 2], none⟩,
    ⟨(some 17), .bin .sub .i64 false, [.tmp 15, .tmp 16], none⟩,
    ⟨(some 11), .mov, [.tmp 17], none⟩] false)
  (.seq (.block 0
    (.loop
      (.seq (.seq (.ops [
        ⟨(some 18), .mov, [.tmp 10], none⟩,
        ⟨(some 19), .mov, [.tmp 11], none⟩,
        ⟨(some 20), .cmp .neq, [.tmp 18, .tmp 19], none⟩] false)
      (.cond (.tmp 20)
        .skip
        (.exit 0)))
      (.block 1
        (.seq (.ops [
          ⟨(some 21), .mov, [.tmp 10], none⟩,
          ⟨(some 22), .mov, [.tmp 11], none⟩,
          ⟨(some 23), .cmp .gtr, [.tmp 21, .tmp 22], none⟩] false)
        (.cond (.tmp 23)
          (.seq (.ops [
            ⟨(some 24), .mov, [.tmp 0], none⟩,
            ⟨(some 25), .mov, [.tmp 2], none⟩,
            ⟨(some 26), .mov, [.tmp 10], none⟩,
            ⟨(some 27), .bin .sub .i64 false, [.tmp 25, .tmp 26], none⟩,
            ⟨(some 28), .mov, [.tmp 2], none⟩,
            ⟨(some 29), .mov, [.tmp 11], none⟩,
            ⟨(some 30), .mov, [.tmp 4], none⟩,
            ⟨(some 31), .callg 63, [.tmp 24, .tmp 27, .tmp 28, .tmp 29, .tmp 30], none⟩] false)
          (.ops [
            ⟨(some 32), .mov, [.tmp 10], none⟩,
            ⟨(some 33), .mov, [.tmp 11], none⟩,
            ⟨(some 34), .bin .sub .i64 false, [.tmp 32, .tmp 33], none⟩,
            ⟨(some 10), .mov, [.tmp 34], none⟩] false))
          (.seq (.ops [
            ⟨(some 35), .mov, [.tmp 0], none⟩,
            ⟨(some 36), .mov, [.tmp 2], none⟩,
            ⟨(some 37), .mov, [.tmp 10], none⟩,
            ⟨(some 38), .bin .sub .i64 false, [.tmp 36, .tmp 37], none⟩,
            ⟨(some 39), .mov, [.tmp 2], none⟩,
            ⟨(some 40), .mov, [.tmp 11], none⟩,
            ⟨(some 41), .bin .add .i64 false, [.tmp 39, .tmp 40], none⟩,
            ⟨(some 42), .mov, [.tmp 10], none⟩,
            ⟨(some 43), .bin .sub .i64 false, [.tmp 41, .tmp 42], none⟩,
            ⟨(some 44), .mov, [.tmp 10], none⟩,
            ⟨(some 45), .mov, [.tmp 4], none⟩,
            ⟨(some 46), .callg 63, [.tmp 35, .tmp 38, .tmp 43, .tmp 44, .tmp 45], none⟩] false)
          (.ops [
            ⟨(some 47), .mov, [.tmp 11], none⟩,
            ⟨(some 48), .mov, [.tmp 10], none⟩,
            ⟨(some 49), .bin .sub .i64 false, [.tmp 47, .tmp 48], none⟩,
            ⟨(some 11), .mov, [.tmp 49], none⟩] false))))))))
  (.ops [
    ⟨(some 50), .mov, [.tmp 0], none⟩,
    ⟨(some 51), .mov, [.tmp 2], none⟩,
    ⟨(some 52), .mov, [.tmp 10], none⟩,
    ⟨(some 53), .bin .sub .i64 false, [.tmp 51, .tmp 52], none⟩,
    ⟨(some 54), .mov, [.tmp 2], none⟩,
    ⟨(some 55), .mov, [.tmp 10], none⟩,
    ⟨(some 56), .mov, [.tmp 4], none⟩,
    ⟨(some 57), .callg 63, [.tmp 50, .tmp 53, .tmp 54, .tmp 55, .tmp 56], none⟩] false))))⟩
theorem rotLow : lowF Try.prog { gvs := [31, 46, 57] } Try.f52 = some rotIr := by kernel_rfl
theorem rotV : fnG Try.prog rotIr rotS := by
  intro ⟨rs, P, A, B, S⟩ hx
  obtain ⟨⟨hA, hB⟩, hlen⟩ : (0 < A.length ∧ 0 < B.length) ∧ (P ++ (A ++ (B ++ S))).length ≤ 1000000 := hx
  simp only [List.length_append] at hlen
  show vc _ _ _ _ ⟨argEnv 0 [.osl 0, I P.length, I (P.length + A.length), I (P.length + A.length + B.length), .fn 27 [.rp [.sl 1 (rs.map e1)]]], idxFrom 0 [.row 3 1 ((P ++ (A ++ (B ++ S))).map e1)], 1⟩
  conv => whnf
  refine ⟨⟨by omega, by omega⟩, ?_⟩
  conv => whnf
  refine ⟨⟨by omega, by omega⟩, ?_⟩
  conv => whnf
  refine ⟨Int × Int × (List (List CV)), fun xq => ⟨[(0, .osl 0), (1, I P.length), (2, I (P.length + A.length)), (3, I (P.length + A.length + B.length)), (4, .fn 27 [.rp [.sl 1 (rs.map e1)]]), (10, I xq.1), (11, I xq.2.1)], [(0, .row 3 1 xq.2.2)], 1⟩, fun xq => ∃ P1 A1 B1 S1 : List Int, (((P1.length : Int) + xq.1 = P.length + A.length ∧ (A1.length : Int) = xq.1 ∧ (B1.length : Int) = xq.2.1) ∧ 0 < xq.1 ∧ 0 < xq.2.1) ∧ P ++ (B ++ (A ++ S)) = P1 ++ (B1 ++ (A1 ++ S1)) ∧ xq.2.2 = (P1 ++ (A1 ++ (B1 ++ S1))).map e1, fun xq => (xq.1 + xq.2.1).toNat, ⟨(_, _, _), ?_, [], ⟨⟨rfl, rfl⟩, ⟨⟨rfl, rfl⟩, ⟨⟨rfl, rfl⟩, ⟨⟨rfl, rfl⟩, ⟨⟨rfl, rfl⟩, ⟨⟨rfl, rfl⟩, ⟨⟨rfl, rfl⟩, trivial⟩⟩⟩⟩⟩⟩⟩, ⟨⟨rfl, rfl, rfl⟩, trivial⟩, rfl, rfl, rfl⟩, ?_⟩
  · (try dsimp only); exact ⟨P, A, B, S, ⟨⟨by omega, by omega, by omega⟩, by omega, by omega⟩, rfl, rfl⟩
  rintro ⟨i, j, es⟩ hk
  obtain ⟨P1, A1, B1, S1, ⟨⟨hi, l1, l2⟩, hi0, hj0⟩, hfin, rfl⟩ : ∃ P1 A1 B1 S1 : List Int, (((P1.length : Int) + i = P.length + A.length ∧ (A1.length : Int) = i ∧ (B1.length : Int) = j) ∧ 0 < i ∧ 0 < j) ∧ P ++ (B ++ (A ++ S)) = P1 ++ (B1 ++ (A1 ++ S1)) ∧ es = (P1 ++ (A1 ++ (B1 ++ S1))).map e1 := hk
  (try dsimp only)
  have hll := congrArg List.length hfin
  simp only [List.length_append] at hll
  rcases Int.lt_trichotomy i j with hij | hij | hij
  · -- the second part is longer
    obtain ⟨B2, B3, rfl, hb2⟩ : ∃ B2 B3 : List Int, B1 = B2 ++ B3 ∧ (B2.length : Int) = j - i := ⟨B1.take (j - i).toNat, B1.drop (j - i).toNat, (List.take_append_drop ..).symm, by rw [List.length_take]; omega⟩
    rw [List.length_append] at l2
    simp only [List.length_append] at hll
    rw [show P1 ++ (A1 ++ (B2 ++ B3 ++ S1)) = P1 ++ (A1 ++ (B2 ++ (B3 ++ S1))) by simp]
    repeat' ((conv => whnf); first | (refine ⟨fun h => ?_, fun h => ?_⟩ <;> try (exfalso; first | omega | exact absurd h (by decide) | exact h rfl)) | refine ⟨[0], _, swap_g, ⟨rs, P1, A1, B2, B3, S1⟩, ⟨by show B3.length = A1.length; omega, by show (P1 ++ (A1 ++ (B2 ++ (B3 ++ S1)))).length ≤ 1000000; first | omega | (simp; done) | (simp; omega)⟩, ⟨⟨⟨rfl, rfl, rfl⟩, trivial⟩, rfl, rfl, rfl⟩, ⟨⟨rfl, rfl⟩, (show leV (I _) (I (P1.length)) from leI (by first | omega | (simp; done) | (simp; omega))), (show leV (I _) (I (P1.length + A1.length + B2.length)) from leI (by first | omega | (simp; done) | (simp; omega))), (show leV (I _) (I (A1.length)) from leI (by first | omega | (simp; done) | (simp; omega))), rfl, trivial⟩, .inr ⟨rfl, ⟨cln1 _, trivial⟩, trivial⟩, ⟨⟨⟨⟨rfl, rfl⟩, by first | (simp; done) | (simp; omega)⟩, trivial⟩, trivial⟩, ?_⟩ | (refine ⟨(_, _, _), ⟨?_, by (try dsimp only); omega⟩, [], ⟨⟨rfl, rfl⟩, ⟨⟨rfl, rfl⟩, ⟨⟨rfl, rfl⟩, ⟨⟨rfl, rfl⟩, ⟨⟨rfl, rfl⟩, ⟨⟨rfl, rfl⟩, ⟨⟨rfl, rfl⟩, trivial⟩⟩⟩⟩⟩⟩⟩, ⟨⟨rfl, rfl, rfl⟩, trivial⟩, rfl, rfl, rfl⟩; (try dsimp only); exact ⟨P1, B3, B2, A1 ++ S1, ⟨⟨by omega, by omega, by omega⟩, by omega, by omega⟩, by rw [hfin]; simp, by simp⟩) | refine ⟨⟨by omega, by omega⟩, ?_⟩ | fail)
  · subst hij
    rw [show P1 ++ (A1 ++ (B1 ++ S1)) = P1 ++ (A1 ++ ([] ++ (B1 ++ S1))) by simp]
    repeat' ((conv => whnf); first | (refine ⟨fun h => ?_, fun h => ?_⟩ <;> try (exfalso; first | omega | exact absurd h (by decide) | exact h rfl)) | refine ⟨[0], _, swap_g, ⟨rs, P1, A1, [], B1, S1⟩, ⟨by show B1.length = A1.length; omega, by show (P1 ++ (A1 ++ (([] : List Int) ++ (B1 ++ S1)))).length ≤ 1000000; first | omega | (simp; done) | (simp; omega)⟩, ⟨⟨⟨rfl, rfl, rfl⟩, trivial⟩, rfl, rfl, rfl⟩, ⟨⟨rfl, rfl⟩, (show leV (I _) (I (P1.length)) from leI (by first | omega | (simp; done) | (simp; omega))), (show leV (I _) (I (P1.length + A1.length + ([] : List Int).length)) from leI (by first | omega | (simp; done) | (simp; omega))), (show leV (I _) (I (A1.length)) from leI (by first | omega | (simp; done) | (simp; omega))), rfl, trivial⟩, .inr ⟨rfl, ⟨cln1 _, trivial⟩, trivial⟩, ⟨⟨⟨⟨rfl, rfl⟩, by first | (simp; done) | (simp; omega)⟩, trivial⟩, trivial⟩, ?_⟩ | refine ⟨⟨by omega, by omega⟩, ?_⟩ | fail)
    refine ⟨[], rfl, rfl, ⟨⟨?_, rfl⟩, trivial⟩, trivial⟩
    show some (Ob.row 3 1 ((P1 ++ (B1 ++ ([] ++ (A1 ++ S1)))).map e1)) = some (Ob.row 3 1 ((P ++ (B ++ (A ++ S))).map e1))
    rw [hfin]; rfl
  · obtain ⟨A2, A3, rfl, ha2⟩ : ∃ A2 A3 : List Int, A1 = A2 ++ A3 ∧ (A2.length : Int) = j := ⟨A1.take j.toNat, A1.drop j.toNat, (List.take_append_drop ..).symm, by rw [List.length_take]; omega⟩
    rw [List.length_append] at l1
    simp only [List.length_append] at hll
    rw [show P1 ++ (A2 ++ A3 ++ (B1 ++ S1)) = P1 ++ (A2 ++ (A3 ++ (B1 ++ S1))) by simp]
    repeat' ((conv => whnf); first | (refine ⟨fun h => ?_, fun h => ?_⟩ <;> try (exfalso; first | omega | exact absurd h (by decide) | exact h rfl)) | refine ⟨[0], _, swap_g, ⟨rs, P1, A2, A3, B1, S1⟩, ⟨by show B1.length = A2.length; omega, by show (P1 ++ (A2 ++ (A3 ++ (B1 ++ S1)))).length ≤ 1000000; first | omega | (simp; done) | (simp; omega)⟩, ⟨⟨⟨rfl, rfl, rfl⟩, trivial⟩, rfl, rfl, rfl⟩, ⟨⟨rfl, rfl⟩, (show leV (I _) (I (P1.length)) from leI (by first | omega | (simp; done) | (simp; omega))), (show leV (I _) (I (P1.length + A2.length + A3.length)) from leI (by first | omega | (simp; done) | (simp; omega))), (show leV (I _) (I (A2.length)) from leI (by first | omega | (simp; done) | (simp; omega))), rfl, trivial⟩, .inr ⟨rfl, ⟨cln1 _, trivial⟩, trivial⟩, ⟨⟨⟨⟨rfl, rfl⟩, by first | (simp; done) | (simp; omega)⟩, trivial⟩, trivial⟩, ?_⟩ | (refine ⟨(_, _, _), ⟨?_, by (try dsimp only); omega⟩, [], ⟨⟨rfl, rfl⟩, ⟨⟨rfl, rfl⟩, ⟨⟨rfl, rfl⟩, ⟨⟨rfl, rfl⟩, ⟨⟨rfl, rfl⟩, ⟨⟨rfl, rfl⟩, ⟨⟨rfl, rfl⟩, trivial⟩⟩⟩⟩⟩⟩⟩, ⟨⟨rfl, rfl, rfl⟩, trivial⟩, rfl, rfl, rfl⟩; (try dsimp only); exact ⟨P1 ++ B1, A3, A2, S1, ⟨⟨by rw [List.length_append]; omega, by omega, by omega⟩, by omega, by omega⟩, by rw [hfin]; simp, by simp⟩) | refine ⟨⟨by omega, by omega⟩, ?_⟩ | fail)
theorem rot_g : HoldsG Try.prog 52 rotS := holdsG_of mix Try.func52 rotLow (fun _ => rfl) rotV

end Go.Proofs.Ytepacknnggnifaa
