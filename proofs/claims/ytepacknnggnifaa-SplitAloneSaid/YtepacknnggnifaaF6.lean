/- Split: slices.symMerge, a single number behind. -/
import Derived.Test.YtepacknnggnifaaF5
namespace Go.Proofs.Ytepacknnggnifaa
open Go.RowKit

def LoR (f : Int → Int) (B : List Int) (x : Int) (u : Nat) : Prop := u = 0 ∨ ∃ y, B[u - 1]? = some y ∧ f x ≤ f y
def HiR (f : Int → Int) (B : List Int) (x : Int) (v : Nat) : Prop := v = B.length ∨ ∃ y, B[v]? = some y ∧ f y < f x
theorem symV2 (N : Nat) (rs P : List Int) (x : Int) (A S R : List Int) (h2 : A.length ≠ 1) (hp : (symS N).pre ⟨rs, P, A, [x], S, R⟩) : fnAt Try.prog symIr (symS N) ⟨rs, P, A, [x], S, R⟩ := by
  obtain ⟨⟨hrg, hrs⟩, ⟨hA, _, hs, hR⟩, ⟨hA0, _, hN⟩, hlen⟩ : ((∀ y ∈ A ++ [x], 0 ≤ y ∧ y < rs.length) ∧ rs.length ≤ 1000000) ∧ (A.Pairwise (bef (keyR rs)) ∧ [x].Pairwise (bef (keyR rs)) ∧ (∀ y ∈ A, ∀ z ∈ [x], stb (keyR rs) y z) ∧ SortedOf (keyR rs) (A ++ [x]) R) ∧ (0 < A.length ∧ 0 < [x].length ∧ A.length + [x].length ≤ N) ∧ (P ++ (A ++ ([x] ++ S))).length ≤ 1000000 := hp
  have hx1 : ([x] : List Int).length = 1 := rfl
  have hxr : 0 ≤ x ∧ x < rs.length := hrg x (by simp)
  simp only [List.length_append, hx1] at hlen
  show vc _ _ _ _ ⟨argEnv 0 [.osl 0, I P.length, I (P.length + A.length), I (P.length + A.length + [x].length), .fn 27 [.rp [.sl 1 (rs.map e1)]]], idxFrom 0 [.row 3 1 ((P ++ (A ++ ([x] ++ S))).map e1)], 1⟩
  have hl1 : (((P ++ (A ++ ([x] ++ S))).map e1).length : Int) = P.length + A.length + 1 + S.length := by simp only [List.length_map, List.length_append, hx1]; omega
  have ga : ((P ++ (A ++ ([x] ++ S))).map e1)[((P.length : Int) + A.length).toNat]? = some [.int .i64 x] := get_e1 (by rw [show ((P.length : Int) + A.length).toNat = (P ++ A).length by rw [List.length_append]; omega, ← List.append_assoc]; exact get_mid _ _ _)
  conv => whnf
  refine ⟨⟨by omega, by omega⟩, ?_⟩
  conv => whnf
  refine ⟨fun h => absurd h (by omega), fun _ => ?_⟩
  conv => whnf
  refine ⟨⟨by omega, by omega⟩, ?_⟩
  conv => whnf
  (refine ⟨fun h => ?_, fun h => ?_⟩ <;> try (exfalso; first | omega | exact absurd h (by decide) | exact h rfl))
  conv => whnf
  refine ⟨Int × Int, fun xq => ⟨[(0, .osl 0), (1, I P.length), (2, I (P.length + A.length)), (3, I (P.length + A.length + [x].length)), (4, .fn 27 [.rp [.sl 1 (rs.map e1)]]), (14, I xq.1), (15, I xq.2)], [(0, .row 3 1 ((P ++ (A ++ ([x] ++ S))).map e1))], 1⟩, fun xq => ∃ u v : Nat, (xq.1 = P.length + u ∧ xq.2 = P.length + v ∧ u ≤ v ∧ v ≤ A.length) ∧ LoR (keyR rs) A x u ∧ HiR (keyR rs) A x v, fun xq => (xq.2 - xq.1).toNat, ⟨(_, _), ?_, [], ⟨⟨rfl, rfl⟩, ⟨⟨rfl, rfl⟩, ⟨⟨rfl, rfl⟩, ⟨⟨rfl, rfl⟩, ⟨⟨rfl, rfl⟩, ⟨⟨rfl, rfl⟩, ⟨⟨rfl, rfl⟩, trivial⟩⟩⟩⟩⟩⟩⟩, ⟨⟨rfl, rfl, rfl⟩, trivial⟩, rfl, rfl, rfl⟩, ?_⟩
  · (try dsimp only); exact ⟨0, A.length, ⟨(Int.add_zero _).symm, rfl, by omega, by omega⟩, .inl rfl, .inl rfl⟩
  rintro ⟨i, j⟩ hk
  obtain ⟨u, v, ⟨hi, hj, huv, hvb⟩, hu, hv⟩ : ∃ u v : Nat, (i = P.length + u ∧ j = P.length + v ∧ u ≤ v ∧ v ≤ A.length) ∧ LoR (keyR rs) A x u ∧ HiR (keyR rs) A x v := hk
  (try dsimp only)
  by_cases hij : i < j
  · have hm : (i + j) / 2 = P.length + ((u + v) / 2 : Nat) := by omega
    obtain ⟨y, hy⟩ := getElem_some (show (u + v) / 2 < A.length by omega)
    have hyr : 0 ≤ y ∧ y < rs.length := hrg y (by simp [List.mem_of_getElem? hy])
    have gh : ((P ++ (A ++ ([x] ++ S))).map e1)[((i + j) / 2).toNat]? = some [.int .i64 y] := get_e1 (by
      rw [show ((i + j) / 2).toNat = P.length + (u + v) / 2 by omega, List.getElem?_append_right (by omega), List.getElem?_append_left (by omega)]
      rw [← hy]; congr 1; omega)
    have hc := cmpI_lt (keyR rs y) (keyR rs x)
    by_cases hxy : keyR rs y < keyR rs x
    · repeat' ((conv => whnf); first | (refine ⟨fun h => ?_, fun h => ?_⟩ <;> try (exfalso; first | omega | exact absurd h (by decide) | exact h rfl)) | (refine ⟨cl, _, less_h, (rs, x, y), ⟨⟨hxr, hyr⟩, hrs⟩, leVs_of_eq rfl, .inr rfl, rfl, ?_⟩; show norm (I (cmpI (keyR rs y) (keyR rs x))) _) | refine get_at gh ?_ | refine get_at ga ?_ | (refine ⟨(_, _), ⟨?_, by (try dsimp only); omega⟩, [], ⟨⟨rfl, rfl⟩, ⟨⟨rfl, rfl⟩, ⟨⟨rfl, rfl⟩, ⟨⟨rfl, rfl⟩, ⟨⟨rfl, rfl⟩, ⟨⟨rfl, rfl⟩, ⟨⟨rfl, rfl⟩, trivial⟩⟩⟩⟩⟩⟩⟩, ⟨⟨rfl, rfl, rfl⟩, trivial⟩, rfl, rfl, rfl⟩; (try dsimp only); exact ⟨u, (u + v) / 2, ⟨by omega, by omega, by omega, by omega⟩, hu, .inr ⟨y, hy, hxy⟩⟩) | refine ⟨inR_u64 (by omega) (by omega), ?_⟩ | (refine ⟨by decide, ?_⟩; rw [half]) | refine ⟨⟨by omega, by omega⟩, ?_⟩ | fail)
    · repeat' ((conv => whnf); first | (refine ⟨fun h => ?_, fun h => ?_⟩ <;> try (exfalso; first | omega | exact absurd h (by decide) | exact h rfl)) | (refine ⟨cl, _, less_h, (rs, x, y), ⟨⟨hxr, hyr⟩, hrs⟩, leVs_of_eq rfl, .inr rfl, rfl, ?_⟩; show norm (I (cmpI (keyR rs y) (keyR rs x))) _) | refine get_at gh ?_ | refine get_at ga ?_ | (refine ⟨(_, _), ⟨?_, by (try dsimp only); omega⟩, [], ⟨⟨rfl, rfl⟩, ⟨⟨rfl, rfl⟩, ⟨⟨rfl, rfl⟩, ⟨⟨rfl, rfl⟩, ⟨⟨rfl, rfl⟩, ⟨⟨rfl, rfl⟩, ⟨⟨rfl, rfl⟩, trivial⟩⟩⟩⟩⟩⟩⟩, ⟨⟨rfl, rfl, rfl⟩, trivial⟩, rfl, rfl, rfl⟩; (try dsimp only); exact ⟨(u + v) / 2 + 1, v, ⟨by omega, by omega, by omega, by omega⟩, .inr ⟨y, hy, by omega⟩, hv⟩) | refine ⟨inR_u64 (by omega) (by omega), ?_⟩ | (refine ⟨by decide, ?_⟩; rw [half]) | refine ⟨⟨by omega, by omega⟩, ?_⟩ | fail)
  · have huv' : u = v := by omega
    subst huv'
    have hres := put_right hA (fun y hy => hs y hy x (by simp)) hR hu hv
    obtain ⟨A1, A2, hAA, ha1, ha2, hal⟩ : ∃ A1 A2 : List Int, A = A1 ++ A2 ∧ A.take u = A1 ∧ A.drop u = A2 ∧ A1.length = u := ⟨A.take u, A.drop u, (List.take_append_drop ..).symm, rfl, rfl, by rw [List.length_take]; omega⟩
    rw [ha1, ha2] at hres
    have hAl := congrArg List.length hAA
    rw [List.length_append] at hAl
    repeat' ((conv => whnf); first | (refine ⟨fun h => ?_, fun h => ?_⟩ <;> try (exfalso; first | omega | exact absurd h (by decide) | exact h rfl)) | fail | fail)
    refine ⟨Int × (List (List CV)), fun xq => ⟨[(0, .osl 0), (14, I i), (17, I xq.1)], [(0, .row 3 1 xq.2)], 1⟩, fun xq => ∃ C1 C2 : List Int, A2 = C1 ++ C2 ∧ xq.1 = P.length + A1.length + C1.length ∧ xq.2 = (P ++ (A1 ++ (C1 ++ (x :: (C2 ++ S))))).map e1, fun xq => xq.1.toNat, ⟨(_, _), ?_, [], ⟨⟨rfl, rfl⟩, ⟨⟨rfl, rfl⟩, ⟨⟨rfl, rfl⟩, trivial⟩⟩⟩, ⟨⟨rfl, rfl, rfl⟩, trivial⟩, rfl, rfl, rfl⟩, ?_⟩
    · (try dsimp only); exact ⟨A2, [], by simp, by omega, by rw [hAA]; simp⟩
    rintro ⟨k, es⟩ hk
    obtain ⟨C1, C2, hC, hk, rfl⟩ : ∃ C1 C2 : List Int, A2 = C1 ++ C2 ∧ k = P.length + A1.length + C1.length ∧ es = (P ++ (A1 ++ (C1 ++ (x :: (C2 ++ S))))).map e1 := hk
    (try dsimp only)
    have hCl := congrArg List.length hC
    rw [List.length_append] at hCl
    by_cases hki : i < k
    · obtain ⟨C3, y, rfl⟩ := last_of (l := C1) (by omega)
      have hes : P ++ (A1 ++ (C3 ++ [y] ++ (x :: (C2 ++ S)))) = (P ++ (A1 ++ C3)) ++ y :: x :: (C2 ++ S) := by simp
      rw [List.length_append, List.length_singleton] at hCl hk
      have i1 : k.toNat = (P ++ (A1 ++ C3)).length + 1 := by simp only [List.length_append]; omega
      have i2 : (k - 1).toNat = (P ++ (A1 ++ C3)).length := by simp only [List.length_append]; omega
      have hl2 : ((((P ++ (A1 ++ C3)) ++ y :: x :: (C2 ++ S)).map e1).length : Int) = P.length + A.length + 1 + S.length := by simp only [List.length_map, List.length_append, List.length_cons]; omega
      have g1 : (((P ++ (A1 ++ C3)) ++ y :: x :: (C2 ++ S)).map e1)[k.toNat]? = some [.int .i64 x] := get_e1 (by rw [i1]; exact get_mid2 _ _ _ _)
      have g2 : (((P ++ (A1 ++ C3)) ++ y :: x :: (C2 ++ S)).map e1)[(k - 1).toNat]? = some [.int .i64 y] := get_e1 (by rw [i2]; exact get_mid _ _ _)
      have g3 : ((((P ++ (A1 ++ C3)) ++ y :: x :: (C2 ++ S)).map e1).set k.toNat [.int .i64 y])[(k - 1).toNat]? = some [.int .i64 y] := by rw [List.getElem?_set_ne (by omega)]; exact g2
      have g4 : ((((P ++ (A1 ++ C3)) ++ y :: x :: (C2 ++ S)).map e1).set k.toNat [.int .i64 y]).set (k - 1).toNat [.int .i64 x] = (P ++ (A1 ++ (C3 ++ (x :: ((y :: C2) ++ S))))).map e1 := by
        rw [map_set1, map_set1, i1, i2, swap_mid]; simp
      rw [hes]
      generalize (((P ++ (A1 ++ C3)) ++ y :: x :: (C2 ++ S)).map e1) = cur at *
      repeat' ((conv => whnf); first | (refine ⟨fun h => ?_, fun h => ?_⟩ <;> try (exfalso; first | omega | exact absurd h (by decide) | exact h rfl)) | refine get_at g1 ?_ | refine get_at g2 ?_ | refine get_at g3 ?_ | (refine ⟨(_, _), ⟨?_, by (try dsimp only); omega⟩, [], ⟨⟨rfl, rfl⟩, ⟨⟨rfl, rfl⟩, ⟨⟨rfl, rfl⟩, trivial⟩⟩⟩, ⟨⟨rfl, rfl, rfl⟩, trivial⟩, rfl, rfl, rfl⟩; (try dsimp only); exact ⟨C3, y :: C2, by rw [hC]; simp, by omega, g4⟩) | refine ⟨⟨by omega, by omega⟩, ?_⟩ | refine ⟨⟨by omega, by (rw [List.length_set]; omega)⟩, ?_⟩ | fail)
    · have hc1 : C1 = [] := List.eq_nil_of_length_eq_zero (by omega)
      subst hc1
      rw [List.nil_append] at hC
      subst hC
      repeat' ((conv => whnf); first | (refine ⟨fun h => ?_, fun h => ?_⟩ <;> try (exfalso; first | omega | exact absurd h (by decide) | exact h rfl)) | refine ⟨⟨by omega, by omega⟩, ?_⟩ | fail | fail)
      refine ⟨[], rfl, rfl, ⟨⟨?_, rfl⟩, trivial⟩, trivial⟩
      exact rowE (by show _ = P ++ (R ++ S); rw [hres]; simp)

end Go.Proofs.Ytepacknnggnifaa
