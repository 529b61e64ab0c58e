/- Split: slices.symMerge, the cut. -/
import Derived.Test.YtepacknnggnifaaF6
namespace Go.Proofs.Ytepacknnggnifaa
open Go.RowKit

def LoG (f : Int → Int) (A B : List Int) (q u : Nat) : Prop := u = q - B.length ∨ ∃ y z, A[u - 1]? = some z ∧ B[q - u]? = some y ∧ f y ≤ f z
def HiG (f : Int → Int) (A B : List Int) (q u : Nat) : Prop := u = min q A.length ∨ ∃ y z, A[u]? = some z ∧ B[q - u - 1]? = some y ∧ f z < f y

set_option maxHeartbeats 4000000 in
theorem symV3 (N : Nat) (rs P A B S R : List Int) (h2 : A.length ≠ 1) (h3 : B.length ≠ 1) (hrec : HoldsG Try.prog 47 (symS (A.length + B.length - 1))) (hp : (symS N).pre ⟨rs, P, A, B, S, R⟩) : fnAt Try.prog symIr (symS N) ⟨rs, P, A, B, S, R⟩ := by
  obtain ⟨⟨hrg, hrs⟩, ⟨hA, hB, hs, hR⟩, ⟨hA0, hB0, hN⟩, hlen⟩ : ((∀ y ∈ A ++ B, 0 ≤ y ∧ y < rs.length) ∧ rs.length ≤ 1000000) ∧ (A.Pairwise (bef (keyR rs)) ∧ B.Pairwise (bef (keyR rs)) ∧ (∀ y ∈ A, ∀ z ∈ B, stb (keyR rs) y z) ∧ SortedOf (keyR rs) (A ++ B) R) ∧ (0 < A.length ∧ 0 < B.length ∧ A.length + B.length ≤ N) ∧ (P ++ (A ++ (B ++ S))).length ≤ 1000000 := hp
  simp only [List.length_append] at hlen
  show vc _ _ _ _ ⟨argEnv 0 [.osl 0, I P.length, I (P.length + A.length), I (P.length + A.length + B.length), .fn 27 [.rp [.sl 1 (rs.map e1)]]], idxFrom 0 [.row 3 1 ((P ++ (A ++ (B ++ S))).map e1)], 1⟩
  have hl1 : (((P ++ (A ++ (B ++ S))).map e1).length : Int) = P.length + A.length + B.length + S.length := by simp only [List.length_map, List.length_append]; omega
  obtain ⟨q, hq⟩ : ∃ q : Nat, q = (A.length + B.length) / 2 := ⟨_, rfl⟩
  have hmid : ((P.length : Int) + (P.length + A.length + B.length)) / 2 = P.length + q := by omega
  repeat' ((conv => whnf); first | (refine ⟨fun h => ?_, fun h => ?_⟩ <;> try (exfalso; first | omega | exact absurd h (by decide) | exact h rfl)) | refine ⟨inR_u64 (by omega) (by omega), ?_⟩ | (refine ⟨by decide, ?_⟩; rw [half, hmid]) | refine ⟨⟨by omega, by omega⟩, ?_⟩ | fail)
  all_goals
    refine ⟨Int × Int, fun xq => ⟨[(0, .osl 0), (1, I P.length), (2, I (P.length + A.length)), (3, I (P.length + A.length + B.length)), (4, .fn 27 [.rp [.sl 1 (rs.map e1)]]), (18, I (P.length + q)), (19, I (P.length + q + (P.length + A.length))), (20, I xq.1), (21, I xq.2), (22, I (P.length + q + (P.length + A.length) - 1))], [(0, .row 3 1 ((P ++ (A ++ (B ++ S))).map e1))], 1⟩, fun xq => ∃ u v : Nat, (xq.1 = P.length + u ∧ xq.2 = P.length + v ∧ u ≤ v ∧ v ≤ min q A.length ∧ q - B.length ≤ u) ∧ LoG (keyR rs) A B q u ∧ HiG (keyR rs) A B q v, fun xq => (xq.2 - xq.1).toNat, ⟨(_, _), ?_, [], ⟨⟨rfl, rfl⟩, ⟨⟨rfl, rfl⟩, ⟨⟨rfl, rfl⟩, ⟨⟨rfl, rfl⟩, ⟨⟨rfl, rfl⟩, ⟨⟨rfl, rfl⟩, ⟨⟨rfl, rfl⟩, ⟨⟨rfl, rfl⟩, ⟨⟨rfl, rfl⟩, ⟨⟨rfl, rfl⟩, trivial⟩⟩⟩⟩⟩⟩⟩⟩⟩⟩, ⟨⟨rfl, rfl, rfl⟩, trivial⟩, rfl, rfl, rfl⟩, ?_⟩
    · (try dsimp only); exact ⟨q - B.length, min q A.length, ⟨by first | omega | (rw [show q - B.length = 0 by omega]; exact (Int.add_zero _).symm), by first | omega | (rw [show min q A.length = A.length by omega]; rfl) | (rw [show min q A.length = q by omega]; rfl), by omega, by omega, by omega⟩, .inl rfl, .inl rfl⟩
    rintro ⟨i, j⟩ hk
    obtain ⟨u, v, ⟨hi, hj, huv, hvb, hlo⟩, hu, hv⟩ : ∃ u v : Nat, (i = P.length + u ∧ j = P.length + v ∧ u ≤ v ∧ v ≤ min q A.length ∧ q - B.length ≤ u) ∧ LoG (keyR rs) A B q u ∧ HiG (keyR rs) A B q v := hk
    (try dsimp only)
    by_cases hij : i < j
    · have hm : (i + j) / 2 = P.length + ((u + v) / 2 : Nat) := by omega
      obtain ⟨x, hx⟩ := getElem_some (show (u + v) / 2 < A.length by omega)
      obtain ⟨y, hy⟩ := getElem_some (show q - (u + v) / 2 - 1 < B.length by omega)
      have hxr : 0 ≤ x ∧ x < rs.length := hrg x (by simp [List.mem_of_getElem? hx])
      have hyr : 0 ≤ y ∧ y < rs.length := hrg y (by simp [List.mem_of_getElem? hy])
      have gh : ((P ++ (A ++ (B ++ S))).map e1)[((i + j) / 2).toNat]? = some [.int .i64 x] := get_e1 (by
        rw [show ((i + j) / 2).toNat = P.length + (u + v) / 2 by omega, List.getElem?_append_right (by omega), List.getElem?_append_left (by omega)]
        rw [← hx]; congr 1; omega)
      have ga : ((P ++ (A ++ (B ++ S))).map e1)[((P.length : Int) + q + (P.length + A.length) - 1 - (i + j) / 2).toNat]? = some [.int .i64 y] := get_e1 (by
        rw [show ((P.length : Int) + q + (P.length + A.length) - 1 - (i + j) / 2).toNat = P.length + A.length + (q - (u + v) / 2 - 1) by omega, List.getElem?_append_right (by omega), List.getElem?_append_right (by omega), List.getElem?_append_left (by omega)]
        rw [← hy]; congr 1; omega)
      have hy' : B[q - ((u + v) / 2 + 1)]? = some y := by rw [show q - ((u + v) / 2 + 1) = q - (u + v) / 2 - 1 by omega]; exact hy
      have hc := cmpI_lt (keyR rs x) (keyR rs y)
      by_cases hxy : keyR rs x < keyR rs y
      · repeat' ((conv => whnf); first | (refine ⟨fun h => ?_, fun h => ?_⟩ <;> try (exfalso; first | omega | exact absurd h (by decide) | exact h rfl)) | (refine ⟨cl, _, less_h, (rs, y, x), ⟨⟨hyr, hxr⟩, hrs⟩, leVs_of_eq rfl, .inr rfl, rfl, ?_⟩; show norm (I (cmpI (keyR rs x) (keyR rs y))) _) | refine get_at gh ?_ | refine get_at ga ?_ | (refine ⟨(_, _), ⟨?_, by (try dsimp only); omega⟩, [], ⟨⟨rfl, rfl⟩, ⟨⟨rfl, rfl⟩, ⟨⟨rfl, rfl⟩, ⟨⟨rfl, rfl⟩, ⟨⟨rfl, rfl⟩, ⟨⟨rfl, rfl⟩, ⟨⟨rfl, rfl⟩, ⟨⟨rfl, rfl⟩, ⟨⟨rfl, rfl⟩, ⟨⟨rfl, rfl⟩, trivial⟩⟩⟩⟩⟩⟩⟩⟩⟩⟩, ⟨⟨rfl, rfl, rfl⟩, trivial⟩, rfl, rfl, rfl⟩; (try dsimp only); exact ⟨u, (u + v) / 2, ⟨by omega, by omega, by omega, by omega, by omega⟩, hu, .inr ⟨y, x, hx, hy, hxy⟩⟩) | refine ⟨inR_u64 (by omega) (by omega), ?_⟩ | (refine ⟨by decide, ?_⟩; rw [half]) | refine ⟨⟨by omega, by omega⟩, ?_⟩ | fail)
      · repeat' ((conv => whnf); first | (refine ⟨fun h => ?_, fun h => ?_⟩ <;> try (exfalso; first | omega | exact absurd h (by decide) | exact h rfl)) | (refine ⟨cl, _, less_h, (rs, y, x), ⟨⟨hyr, hxr⟩, hrs⟩, leVs_of_eq rfl, .inr rfl, rfl, ?_⟩; show norm (I (cmpI (keyR rs x) (keyR rs y))) _) | refine get_at gh ?_ | refine get_at ga ?_ | (refine ⟨(_, _), ⟨?_, by (try dsimp only); omega⟩, [], ⟨⟨rfl, rfl⟩, ⟨⟨rfl, rfl⟩, ⟨⟨rfl, rfl⟩, ⟨⟨rfl, rfl⟩, ⟨⟨rfl, rfl⟩, ⟨⟨rfl, rfl⟩, ⟨⟨rfl, rfl⟩, ⟨⟨rfl, rfl⟩, ⟨⟨rfl, rfl⟩, ⟨⟨rfl, rfl⟩, trivial⟩⟩⟩⟩⟩⟩⟩⟩⟩⟩, ⟨⟨rfl, rfl, rfl⟩, trivial⟩, rfl, rfl, rfl⟩; (try dsimp only); exact ⟨(u + v) / 2 + 1, v, ⟨by omega, by omega, by omega, by omega, by omega⟩, .inr ⟨y, x, hx, hy', by omega⟩, hv⟩) | refine ⟨inR_u64 (by omega) (by omega), ?_⟩ | (refine ⟨by decide, ?_⟩; rw [half]) | refine ⟨⟨by omega, by omega⟩, ?_⟩ | fail)
    · have huv' : u = v := by omega
      subst huv'
      have hah := cut_ahead hA hB hs hlo hvb hu hv
      obtain ⟨A1, A2, hAA, ha1, ha2, hal⟩ : ∃ A1 A2 : List Int, A = A1 ++ A2 ∧ A.take u = A1 ∧ A.drop u = A2 ∧ A1.length = u := ⟨A.take u, A.drop u, (List.take_append_drop ..).symm, rfl, rfl, by rw [List.length_take]; omega⟩
      obtain ⟨B1, B2, hBB, hb1, hb2, hbl⟩ : ∃ B1 B2 : List Int, B = B1 ++ B2 ∧ B.take (q - u) = B1 ∧ B.drop (q - u) = B2 ∧ B1.length = q - u := ⟨B.take (q - u), B.drop (q - u), (List.take_append_drop ..).symm, rfl, rfl, by rw [List.length_take]; omega⟩
      rw [ha1, ha2, hb1, hb2] at hah
      have hAl := congrArg List.length hAA
      have hBl := congrArg List.length hBB
      rw [List.length_append] at hAl hBl
      have hst : (A ++ B).Nodup := stb_nodup (f := keyR rs) (List.pairwise_append.2 ⟨hA.imp bef_stb, hB.imp bef_stb, hs⟩)
      rw [hAA, hBB] at hst hR hrg
      have hAp := hA
      have hBp := hB
      rw [hAA, List.pairwise_append] at hAp
      rw [hBB, List.pairwise_append] at hBp
      have hs1 : ∀ y ∈ A1, ∀ z ∈ B1, stb (keyR rs) y z := fun y hy z hz => hs y (by rw [hAA]; simp [hy]) z (by rw [hBB]; simp [hz])
      have hs2 : ∀ y ∈ A2, ∀ z ∈ B2, stb (keyR rs) y z := fun y hy z hz => hs y (by rw [hAA]; simp [hy]) z (by rw [hBB]; simp [hz])
      obtain ⟨R1, hR1⟩ := stb_ex (f := keyR rs) (List.pairwise_append.2 ⟨hAp.1.imp bef_stb, hBp.1.imp bef_stb, hs1⟩)
      obtain ⟨R2, hR2⟩ := stb_ex (f := keyR rs) (List.pairwise_append.2 ⟨hAp.2.1.imp bef_stb, hBp.2.1.imp bef_stb, hs2⟩)
      have hpm : (A1 ++ A2 ++ (B1 ++ B2)).Perm (A1 ++ B1 ++ (A2 ++ B2)) := by
        rw [List.append_assoc, List.append_assoc]
        refine List.Perm.append_left _ ?_
        rw [← List.append_assoc, ← List.append_assoc]
        exact List.Perm.append_right _ List.perm_append_comm
      have hRR := sorted_join ⟨hR.1.trans hpm, hR.2⟩ hR1 hR2 hah
      have hL1 := hR1.1.length_eq
      have hL2 := hR2.1.length_eq
      rw [List.length_append] at hL1 hL2
      have p1 : 0 < A1.length → 0 < B1.length → A2.length + B2.length ≠ 0 → (symS (A.length + B.length - 1)).pre ⟨rs, P, A1, B1, A2 ++ (B2 ++ S), R1⟩ := fun e1 e2 e3 =>
        ⟨⟨fun y hy => hrg y (by rcases List.mem_append.1 hy with h | h <;> simp [h]), hrs⟩, ⟨hAp.1, hBp.1, hs1, hR1⟩, ⟨e1, e2, by show A1.length + B1.length ≤ _; omega⟩, by show (P ++ (A1 ++ (B1 ++ (A2 ++ (B2 ++ S))))).length ≤ 1000000; simp; omega⟩
      have p2 : 0 < A2.length → 0 < B2.length → A1.length + B1.length ≠ 0 → (symS (A.length + B.length - 1)).pre ⟨rs, P ++ R1, A2, B2, S, R2⟩ := fun e1 e2 e3 =>
        ⟨⟨fun y hy => hrg y (by rcases List.mem_append.1 hy with h | h <;> simp [h]), hrs⟩, ⟨hAp.2.1, hBp.2.1, hs2, hR2⟩, ⟨e1, e2, by show A2.length + B2.length ≤ _; omega⟩, by show (P ++ R1 ++ (A2 ++ (B2 ++ S))).length ≤ 1000000; simp; omega⟩
      have q1 : ¬ (0 < A1.length ∧ 0 < B1.length) → R1 = A1 ++ B1 := fun h => by
        refine (sorted_self ?_ hR1).symm
        by_cases e : A1.length = 0
        · rw [List.eq_nil_of_length_eq_zero e]; exact hBp.1
        · rw [List.eq_nil_of_length_eq_zero (l := B1) (by omega), List.append_nil]; exact hAp.1
      have q2 : ¬ (0 < A2.length ∧ 0 < B2.length) → R2 = A2 ++ B2 := fun h => by
        refine (sorted_self ?_ hR2).symm
        by_cases e : A2.length = 0
        · rw [List.eq_nil_of_length_eq_zero e]; exact hBp.2.1
        · rw [List.eq_nil_of_length_eq_zero (l := B2) (by omega), List.append_nil]; exact hAp.2.1
      have hF1 : P ++ (A ++ (B ++ S)) = P ++ A1 ++ (A2 ++ (B1 ++ (B2 ++ S))) := by rw [hAA, hBB]; simp
      have hF2 : ¬ (0 < A2.length ∧ 0 < B1.length) → P ++ (A ++ (B ++ S)) = P ++ (A1 ++ (B1 ++ (A2 ++ (B2 ++ S)))) := fun h => by
        rw [hAA, hBB]
        by_cases e : A2.length = 0
        · rw [List.eq_nil_of_length_eq_zero e]; simp
        · rw [List.eq_nil_of_length_eq_zero (l := B1) (by omega)]; simp
      have hqA : q ≠ 0 := by omega
      by_cases c1 : 0 < A2.length ∧ 0 < B1.length
      · skip
        by_cases c2 : 0 < A1.length ∧ 0 < B1.length
        · skip
          by_cases c3 : 0 < A2.length ∧ 0 < B2.length
          · skip
            repeat' ((conv => whnf); first | (refine ⟨fun h => ?_, fun h => ?_⟩ <;> try (exfalso; first | omega | exact absurd h (by decide) | exact h rfl)) | refine ⟨[0], _, rot_g, ⟨rs, P ++ A1, A2, B1, B2 ++ S⟩, ⟨c1, by show (P ++ A1 ++ (A2 ++ (B1 ++ (B2 ++ S)))).length ≤ 1000000; simp; omega⟩, ⟨⟨⟨rowE hF1, rfl, rfl⟩, trivial⟩, rfl, rfl, rfl⟩, ⟨⟨rfl, rfl⟩, (show leV (I _) (I ((P ++ A1).length)) from leI (by first | omega | (simp; done) | (simp; omega))), (show leV (I _) (I ((P ++ A1).length + A2.length)) from leI (by first | omega | (simp; done) | (simp; omega))), (show leV (I _) (I ((P ++ A1).length + A2.length + B1.length)) from leI (by first | omega | (simp; done) | (simp; omega))), rfl, trivial⟩, .inr ⟨rfl, ⟨cln1 _, trivial⟩, trivial⟩, ⟨⟨⟨⟨rfl, rfl⟩, by first | (simp; done) | (simp; omega)⟩, trivial⟩, trivial⟩, ?_⟩ | refine ⟨[0], _, hrec, ⟨rs, P, A1, B1, A2 ++ (B2 ++ S), R1⟩, p1 c2.1 c2.2 (by omega), ⟨⟨⟨rowE (by simp), rfl, rfl⟩, trivial⟩, rfl, rfl, rfl⟩, ⟨⟨rfl, rfl⟩, (show leV (I _) (I (P.length)) from leI (by first | omega | (simp; done) | (simp; omega))), (show leV (I _) (I (P.length + A1.length)) from leI (by first | omega | (simp; done) | (simp; omega))), (show leV (I _) (I (P.length + A1.length + B1.length)) from leI (by first | omega | (simp; done) | (simp; omega))), rfl, trivial⟩, .inr ⟨rfl, ⟨cln1 _, trivial⟩, trivial⟩, ⟨⟨⟨⟨rfl, rfl⟩, by first | (simp; done) | (simp; omega)⟩, trivial⟩, trivial⟩, ?_⟩ | refine ⟨[0], _, hrec, ⟨rs, P ++ R1, A2, B2, S, R2⟩, p2 c3.1 c3.2 (by omega), ⟨⟨⟨rowE (by simp), rfl, rfl⟩, trivial⟩, rfl, rfl, rfl⟩, ⟨⟨rfl, rfl⟩, (show leV (I _) (I ((P ++ R1).length)) from leI (by first | omega | (simp; done) | (simp; omega))), (show leV (I _) (I ((P ++ R1).length + A2.length)) from leI (by first | omega | (simp; done) | (simp; omega))), (show leV (I _) (I ((P ++ R1).length + A2.length + B2.length)) from leI (by first | omega | (simp; done) | (simp; omega))), rfl, trivial⟩, .inr ⟨rfl, ⟨cln1 _, trivial⟩, trivial⟩, ⟨⟨⟨⟨rfl, rfl⟩, by first | (simp; done) | (simp; omega)⟩, trivial⟩, trivial⟩, ?_⟩ | refine ⟨⟨by omega, by omega⟩, ?_⟩ | fail)
            all_goals (refine ⟨[], rfl, rfl, ⟨⟨?_, rfl⟩, trivial⟩, trivial⟩; exact rowE (by show _ = P ++ (R ++ S); rw [← hRR]; simp))
          · obtain rfl := q2 c3
            repeat' ((conv => whnf); first | (refine ⟨fun h => ?_, fun h => ?_⟩ <;> try (exfalso; first | omega | exact absurd h (by decide) | exact h rfl)) | refine ⟨[0], _, rot_g, ⟨rs, P ++ A1, A2, B1, B2 ++ S⟩, ⟨c1, by show (P ++ A1 ++ (A2 ++ (B1 ++ (B2 ++ S)))).length ≤ 1000000; simp; omega⟩, ⟨⟨⟨rowE hF1, rfl, rfl⟩, trivial⟩, rfl, rfl, rfl⟩, ⟨⟨rfl, rfl⟩, (show leV (I _) (I ((P ++ A1).length)) from leI (by first | omega | (simp; done) | (simp; omega))), (show leV (I _) (I ((P ++ A1).length + A2.length)) from leI (by first | omega | (simp; done) | (simp; omega))), (show leV (I _) (I ((P ++ A1).length + A2.length + B1.length)) from leI (by first | omega | (simp; done) | (simp; omega))), rfl, trivial⟩, .inr ⟨rfl, ⟨cln1 _, trivial⟩, trivial⟩, ⟨⟨⟨⟨rfl, rfl⟩, by first | (simp; done) | (simp; omega)⟩, trivial⟩, trivial⟩, ?_⟩ | refine ⟨[0], _, hrec, ⟨rs, P, A1, B1, A2 ++ (B2 ++ S), R1⟩, p1 c2.1 c2.2 (by omega), ⟨⟨⟨rowE (by simp), rfl, rfl⟩, trivial⟩, rfl, rfl, rfl⟩, ⟨⟨rfl, rfl⟩, (show leV (I _) (I (P.length)) from leI (by first | omega | (simp; done) | (simp; omega))), (show leV (I _) (I (P.length + A1.length)) from leI (by first | omega | (simp; done) | (simp; omega))), (show leV (I _) (I (P.length + A1.length + B1.length)) from leI (by first | omega | (simp; done) | (simp; omega))), rfl, trivial⟩, .inr ⟨rfl, ⟨cln1 _, trivial⟩, trivial⟩, ⟨⟨⟨⟨rfl, rfl⟩, by first | (simp; done) | (simp; omega)⟩, trivial⟩, trivial⟩, ?_⟩ | refine ⟨⟨by omega, by omega⟩, ?_⟩ | fail)
            all_goals (refine ⟨[], rfl, rfl, ⟨⟨?_, rfl⟩, trivial⟩, trivial⟩; exact rowE (by show _ = P ++ (R ++ S); rw [← hRR]; simp))
        · obtain rfl := q1 c2
          by_cases c3 : 0 < A2.length ∧ 0 < B2.length
          · skip
            repeat' ((conv => whnf); first | (refine ⟨fun h => ?_, fun h => ?_⟩ <;> try (exfalso; first | omega | exact absurd h (by decide) | exact h rfl)) | refine ⟨[0], _, rot_g, ⟨rs, P ++ A1, A2, B1, B2 ++ S⟩, ⟨c1, by show (P ++ A1 ++ (A2 ++ (B1 ++ (B2 ++ S)))).length ≤ 1000000; simp; omega⟩, ⟨⟨⟨rowE hF1, rfl, rfl⟩, trivial⟩, rfl, rfl, rfl⟩, ⟨⟨rfl, rfl⟩, (show leV (I _) (I ((P ++ A1).length)) from leI (by first | omega | (simp; done) | (simp; omega))), (show leV (I _) (I ((P ++ A1).length + A2.length)) from leI (by first | omega | (simp; done) | (simp; omega))), (show leV (I _) (I ((P ++ A1).length + A2.length + B1.length)) from leI (by first | omega | (simp; done) | (simp; omega))), rfl, trivial⟩, .inr ⟨rfl, ⟨cln1 _, trivial⟩, trivial⟩, ⟨⟨⟨⟨rfl, rfl⟩, by first | (simp; done) | (simp; omega)⟩, trivial⟩, trivial⟩, ?_⟩ | refine ⟨[0], _, hrec, ⟨rs, P ++ (A1 ++ B1), A2, B2, S, R2⟩, p2 c3.1 c3.2 (by omega), ⟨⟨⟨rowE (by simp), rfl, rfl⟩, trivial⟩, rfl, rfl, rfl⟩, ⟨⟨rfl, rfl⟩, (show leV (I _) (I ((P ++ (A1 ++ B1)).length)) from leI (by first | omega | (simp; done) | (simp; omega))), (show leV (I _) (I ((P ++ (A1 ++ B1)).length + A2.length)) from leI (by first | omega | (simp; done) | (simp; omega))), (show leV (I _) (I ((P ++ (A1 ++ B1)).length + A2.length + B2.length)) from leI (by first | omega | (simp; done) | (simp; omega))), rfl, trivial⟩, .inr ⟨rfl, ⟨cln1 _, trivial⟩, trivial⟩, ⟨⟨⟨⟨rfl, rfl⟩, by first | (simp; done) | (simp; omega)⟩, trivial⟩, trivial⟩, ?_⟩ | refine ⟨⟨by omega, by omega⟩, ?_⟩ | fail)
            all_goals (refine ⟨[], rfl, rfl, ⟨⟨?_, rfl⟩, trivial⟩, trivial⟩; exact rowE (by show _ = P ++ (R ++ S); rw [← hRR]; simp))
          · obtain rfl := q2 c3
            repeat' ((conv => whnf); first | (refine ⟨fun h => ?_, fun h => ?_⟩ <;> try (exfalso; first | omega | exact absurd h (by decide) | exact h rfl)) | refine ⟨[0], _, rot_g, ⟨rs, P ++ A1, A2, B1, B2 ++ S⟩, ⟨c1, by show (P ++ A1 ++ (A2 ++ (B1 ++ (B2 ++ S)))).length ≤ 1000000; simp; omega⟩, ⟨⟨⟨rowE hF1, rfl, rfl⟩, trivial⟩, rfl, rfl, rfl⟩, ⟨⟨rfl, rfl⟩, (show leV (I _) (I ((P ++ A1).length)) from leI (by first | omega | (simp; done) | (simp; omega))), (show leV (I _) (I ((P ++ A1).length + A2.length)) from leI (by first | omega | (simp; done) | (simp; omega))), (show leV (I _) (I ((P ++ A1).length + A2.length + B1.length)) from leI (by first | omega | (simp; done) | (simp; omega))), rfl, trivial⟩, .inr ⟨rfl, ⟨cln1 _, trivial⟩, trivial⟩, ⟨⟨⟨⟨rfl, rfl⟩, by first | (simp; done) | (simp; omega)⟩, trivial⟩, trivial⟩, ?_⟩ | refine ⟨⟨by omega, by omega⟩, ?_⟩ | fail)
            all_goals (refine ⟨[], rfl, rfl, ⟨⟨?_, rfl⟩, trivial⟩, trivial⟩; exact rowE (by show _ = P ++ (R ++ S); rw [← hRR]; simp))
      · rw [hF2 c1]
        by_cases c2 : 0 < A1.length ∧ 0 < B1.length
        · skip
          by_cases c3 : 0 < A2.length ∧ 0 < B2.length
          · skip
            repeat' ((conv => whnf); first | (refine ⟨fun h => ?_, fun h => ?_⟩ <;> try (exfalso; first | omega | exact absurd h (by decide) | exact h rfl)) | refine ⟨[0], _, hrec, ⟨rs, P, A1, B1, A2 ++ (B2 ++ S), R1⟩, p1 c2.1 c2.2 (by omega), ⟨⟨⟨rfl, rfl, rfl⟩, trivial⟩, rfl, rfl, rfl⟩, ⟨⟨rfl, rfl⟩, (show leV (I _) (I (P.length)) from leI (by first | omega | (simp; done) | (simp; omega))), (show leV (I _) (I (P.length + A1.length)) from leI (by first | omega | (simp; done) | (simp; omega))), (show leV (I _) (I (P.length + A1.length + B1.length)) from leI (by first | omega | (simp; done) | (simp; omega))), rfl, trivial⟩, .inr ⟨rfl, ⟨cln1 _, trivial⟩, trivial⟩, ⟨⟨⟨⟨rfl, rfl⟩, by first | (simp; done) | (simp; omega)⟩, trivial⟩, trivial⟩, ?_⟩ | refine ⟨[0], _, hrec, ⟨rs, P ++ R1, A2, B2, S, R2⟩, p2 c3.1 c3.2 (by omega), ⟨⟨⟨rowE (by simp), rfl, rfl⟩, trivial⟩, rfl, rfl, rfl⟩, ⟨⟨rfl, rfl⟩, (show leV (I _) (I ((P ++ R1).length)) from leI (by first | omega | (simp; done) | (simp; omega))), (show leV (I _) (I ((P ++ R1).length + A2.length)) from leI (by first | omega | (simp; done) | (simp; omega))), (show leV (I _) (I ((P ++ R1).length + A2.length + B2.length)) from leI (by first | omega | (simp; done) | (simp; omega))), rfl, trivial⟩, .inr ⟨rfl, ⟨cln1 _, trivial⟩, trivial⟩, ⟨⟨⟨⟨rfl, rfl⟩, by first | (simp; done) | (simp; omega)⟩, trivial⟩, trivial⟩, ?_⟩ | refine ⟨⟨by omega, by omega⟩, ?_⟩ | fail)
            all_goals (refine ⟨[], rfl, rfl, ⟨⟨?_, rfl⟩, trivial⟩, trivial⟩; exact rowE (by show _ = P ++ (R ++ S); rw [← hRR]; simp))
          · obtain rfl := q2 c3
            repeat' ((conv => whnf); first | (refine ⟨fun h => ?_, fun h => ?_⟩ <;> try (exfalso; first | omega | exact absurd h (by decide) | exact h rfl)) | refine ⟨[0], _, hrec, ⟨rs, P, A1, B1, A2 ++ (B2 ++ S), R1⟩, p1 c2.1 c2.2 (by omega), ⟨⟨⟨rfl, rfl, rfl⟩, trivial⟩, rfl, rfl, rfl⟩, ⟨⟨rfl, rfl⟩, (show leV (I _) (I (P.length)) from leI (by first | omega | (simp; done) | (simp; omega))), (show leV (I _) (I (P.length + A1.length)) from leI (by first | omega | (simp; done) | (simp; omega))), (show leV (I _) (I (P.length + A1.length + B1.length)) from leI (by first | omega | (simp; done) | (simp; omega))), rfl, trivial⟩, .inr ⟨rfl, ⟨cln1 _, trivial⟩, trivial⟩, ⟨⟨⟨⟨rfl, rfl⟩, by first | (simp; done) | (simp; omega)⟩, trivial⟩, trivial⟩, ?_⟩ | refine ⟨⟨by omega, by omega⟩, ?_⟩ | fail)
            all_goals (refine ⟨[], rfl, rfl, ⟨⟨?_, rfl⟩, trivial⟩, trivial⟩; exact rowE (by show _ = P ++ (R ++ S); rw [← hRR]; simp))
        · obtain rfl := q1 c2
          by_cases c3 : 0 < A2.length ∧ 0 < B2.length
          · skip
            repeat' ((conv => whnf); first | (refine ⟨fun h => ?_, fun h => ?_⟩ <;> try (exfalso; first | omega | exact absurd h (by decide) | exact h rfl)) | refine ⟨[0], _, hrec, ⟨rs, P ++ (A1 ++ B1), A2, B2, S, R2⟩, p2 c3.1 c3.2 (by omega), ⟨⟨⟨rowE (by simp), rfl, rfl⟩, trivial⟩, rfl, rfl, rfl⟩, ⟨⟨rfl, rfl⟩, (show leV (I _) (I ((P ++ (A1 ++ B1)).length)) from leI (by first | omega | (simp; done) | (simp; omega))), (show leV (I _) (I ((P ++ (A1 ++ B1)).length + A2.length)) from leI (by first | omega | (simp; done) | (simp; omega))), (show leV (I _) (I ((P ++ (A1 ++ B1)).length + A2.length + B2.length)) from leI (by first | omega | (simp; done) | (simp; omega))), rfl, trivial⟩, .inr ⟨rfl, ⟨cln1 _, trivial⟩, trivial⟩, ⟨⟨⟨⟨rfl, rfl⟩, by first | (simp; done) | (simp; omega)⟩, trivial⟩, trivial⟩, ?_⟩ | refine ⟨⟨by omega, by omega⟩, ?_⟩ | fail)
            all_goals (refine ⟨[], rfl, rfl, ⟨⟨?_, rfl⟩, trivial⟩, trivial⟩; exact rowE (by show _ = P ++ (R ++ S); rw [← hRR]; simp))
          · obtain rfl := q2 c3
            repeat' ((conv => whnf); first | (refine ⟨fun h => ?_, fun h => ?_⟩ <;> try (exfalso; first | omega | exact absurd h (by decide) | exact h rfl)) | refine ⟨⟨by omega, by omega⟩, ?_⟩ | fail)
            all_goals (refine ⟨[], rfl, rfl, ⟨⟨?_, rfl⟩, trivial⟩, trivial⟩; exact rowE (by show _ = P ++ (R ++ S); rw [← hRR]; simp))

theorem sym_g : ∀ N : Nat, HoldsG Try.prog 47 (symS N) := by
  intro N
  induction N using Nat.strongRecOn with
  | _ N ih =>
    refine holdsG_of mix Try.func47 symLow (fun _ => rfl) ?_
    rintro ⟨rs, P, A, B, S, R⟩ hp
    obtain ⟨_, _, ⟨hA0, hB0, hN⟩, _⟩ := id hp
    replace hN : A.length + B.length ≤ N := hN
    replace hA0 : 0 < A.length := hA0
    by_cases h2 : A.length = 1
    · obtain ⟨x, rfl⟩ := List.length_eq_one_iff.1 h2
      exact symV1 N rs P x B S R hp
    · by_cases h3 : B.length = 1
      · obtain ⟨x, rfl⟩ := List.length_eq_one_iff.1 h3
        exact symV2 N rs P x A S R h2 hp
      · exact symV3 N rs P A B S R h2 h3 (ih _ (by omega)) hp

end Go.Proofs.Ytepacknnggnifaa
