/- Split: slices.SortStableFunc. -/
import Derived.Test.YtepacknnggnifaaF7
import Derived.Test.YtepacknnggnifaaP3
namespace Go.Proofs.Ytepacknnggnifaa
open Go.RowKit

structure StX where
  rs : List Int
  l : List Int
  R : List Int
def stP (x : StX) : Prop := ((∀ y ∈ x.l, 0 ≤ y ∧ y < x.rs.length) ∧ x.rs.length ≤ 1000000) ∧ (x.l.Pairwise (stb (keyR x.rs)) ∧ SortedOf (keyR x.rs) x.l x.R) ∧ x.l.length ≤ 1000000
def stabS : GSpec := ⟨StX, fun x => [.row 3 1 (x.l.map e1)], fun x => [.osl 0, I x.l.length, .fn 27 [.rp [.sl 1 (x.rs.map e1)]]], stP, fun _ => .tup [], fun x => [.row 3 1 (x.R.map e1)], fun _ => []⟩
def sortS : GSpec := ⟨StX, fun x => [.row 3 1 (x.l.map e1)], fun x => [.osl 0, .fn 27 [.rp [.sl 1 (x.rs.map e1)]]], stP, fun _ => .tup [], fun x => [.row 3 1 (x.R.map e1)], fun _ => []⟩
theorem insPre {rs l P A S R : List Int} (hm : Mid (keyR rs) l (P ++ (A ++ S))) (hrg : ∀ y ∈ l, 0 ≤ y ∧ y < rs.length) (hrs : rs.length ≤ 1000000) (hl : l.length ≤ 1000000) (hR : SortedOf (keyR rs) A R) : insS.pre ⟨rs, P, A, S, R⟩ :=
  ⟨⟨fun y hy => hrg y (hm.mem hy), hrs, hm.stA, hR⟩, by show (P ++ (A ++ S)).length ≤ 1000000; rw [hm.len]; exact hl⟩
theorem symPre {rs l P A B S R : List Int} (hm : Mid (keyR rs) l (P ++ ((A ++ B) ++ S))) (hrg : ∀ y ∈ l, 0 ≤ y ∧ y < rs.length) (hrs : rs.length ≤ 1000000) (hl : l.length ≤ 1000000) (hR : SortedOf (keyR rs) (A ++ B) R) (hA : A.Pairwise (bef (keyR rs))) (hB : B.Pairwise (bef (keyR rs))) (h1 : 0 < A.length) (h2 : 0 < B.length) : (symS (A.length + B.length)).pre ⟨rs, P, A, B, S, R⟩ :=
  ⟨⟨fun y hy => hrg y (hm.mem hy), hrs⟩, ⟨hA, hB, hm.cross, hR⟩, ⟨h1, h2, Nat.le_refl _⟩, by show (P ++ (A ++ (B ++ S))).length ≤ 1000000; rw [← List.append_assoc A, hm.len]; exact hl⟩

/-! slices.stableCmpFunc[int] -/
def stabIr : IFn := ⟨63, [],
  (.seq (.ops [
    ⟨(some 6), .mov, [.const (.int .i64 20)], none⟩] false)
  (.seq (.ops [
    ⟨(some 10), .mov, [.tmp 6], none⟩,
    ⟨(some 7), .mov, [.const (.int .i64 0)], none⟩,
    ⟨(some 8), .mov, [.tmp 10], none⟩] false)
  (.seq (.block 0
    (.loop
      (.seq (.seq (.ops [
        ⟨(some 11), .mov, [.tmp 8], none⟩,
        ⟨(some 12), .mov, [.tmp 1], none⟩,
        ⟨(some 13), .cmp .leq, [.tmp 11, .tmp 12], none⟩] false)
      (.cond (.tmp 13)
        .skip
        (.exit 0)))
      (.block 1
        (.seq (.ops [
          ⟨(some 14), .mov, [.tmp 0], none⟩,
          ⟨(some 15), .mov, [.tmp 7], none⟩,
          ⟨(some 16), .mov, [.tmp 8], none⟩,
          ⟨(some 17), .mov, [.tmp 2], none⟩,
          ⟨(some 18), .callg 46, [.tmp 14, .tmp 15, .tmp 16, .tmp 17], none⟩] false)
        (.seq (.ops [
          ⟨(some 19), .mov, [.tmp 8], none⟩,
          ⟨(some 7), .mov, [.tmp 19], none⟩] false)
        (.ops [
          ⟨(some 20), .mov, [.tmp 8], none⟩,
          ⟨(some 21), .mov, [.tmp 6], none⟩,
          ⟨(some 22), .bin .add .i64 false, [.tmp 20, .tmp 21], none⟩,
          ⟨(some 8), .mov, [.tmp 22], none⟩] false)))))))
  (.seq (.ops [
    ⟨(some 23), .mov, [.tmp 0], none⟩,
    ⟨(some 24), .mov, [.tmp 7], none⟩,
    ⟨(some 25), .mov, [.tmp 1], none⟩,
    ⟨(some 26), .mov, [.tmp 2], none⟩,
    ⟨(some 27), .callg 46, [.tmp 23, .tmp 24, .tmp 25, .tmp 26], none⟩] false)
  (.block 2
    (.loop
      (.seq (.seq (.ops [
        ⟨(some 28), .mov, [.tmp 6], none⟩,
        ⟨(some 29), .mov, [.tmp 1], none⟩,
        ⟨(some 30), .cmp .lss, [.tmp 28, .tmp 29], none⟩] false)
      (.cond (.tmp 30)
        .skip
        (.exit 2)))
      (.block 3
        (.seq (.ops [
          ⟨(some 31), .mov, [.tmp 6], none⟩,
          ⟨(some 32), .bin .mul .i64 false, [.const (.int .i64 2), .tmp 31], none⟩,
          ⟨(some 7), .mov, [.const (.int .i64 0)], none⟩,
          ⟨(some 8), .mov, [.tmp 32], none⟩] false)
        (.seq (.block 4
          (.loop
            (.seq (.seq (.ops [
              ⟨(some 33), .mov, [.tmp 8], none⟩,
              ⟨(some 34), .mov, [.tmp 1], none⟩,
              ⟨(some 35), .cmp .leq, [.tmp 33, .tmp 34], none⟩] false)
            (.cond (.tmp 35)
              .skip
              (.exit 4)))
            (.block 5
              (.seq (.ops [
                ⟨(some 36), .mov, [.tmp 0], none⟩,
                ⟨(some 37), .mov, [.tmp 7], none⟩,
                ⟨(some 38), .mov, [.tmp 7], none⟩,
                ⟨(some 39), .mov, [.tmp 6], none⟩,
                ⟨(some 40), .bin .add .i64 false, [.tmp 38, .tmp 39], none⟩,
                ⟨(some 41), .mov, [.tmp 8], none⟩,
                ⟨(some 42), .mov, [.tmp 2], none⟩,
                ⟨(some 43), .callg 47, [.tmp 36, .tmp 37, .tmp 40, .tmp 41, .tmp 42], none⟩] false)
              (.seq (.ops [
                ⟨(some 44), .mov, [.tmp 8], none⟩,
                ⟨(some 7), .mov, [.tmp 44], none⟩] false)
              (.ops [
                ⟨(some 45), .mov, [.tmp 8], none⟩,
                ⟨(some 46), .mov, [.tmp 6], none⟩,
                ⟨(some 47), .bin .mul .i64 false, [.const (.int .i64 2), .tmp 46], none⟩,
                ⟨(some 48), .bin .add .i64 false, [.tmp 45, .tmp 47], none⟩,
                ⟨(some 8), .mov, [.tmp 48], none⟩] false)))))))
        (.seq (.seq (.ops [
          ⟨(some 49), .mov, [.tmp 7], none⟩,
          ⟨(some 50), .mov, [.tmp 6], none⟩,
          ⟨(some 51), .bin .add .i64 false, [.tmp 49, .tmp 50], none⟩,
          ⟨(some 9), .mov, [.tmp 51], none⟩] false)
        (.seq (.ops [
          ⟨(some 52), .mov, [.tmp 9], none⟩,
          ⟨(some 53), .mov, [.tmp 1], none⟩,
          ⟨(some 54), .cmp .lss, [.tmp 52, .tmp 53], none⟩] false)
        (.cond (.tmp 54)
          (.ops [
            ⟨(some 55), .mov, [.tmp 0], none⟩,
            ⟨(some 56), .mov, [.tmp 7], none⟩,
            ⟨(some 57), .mov, [.tmp 9], none⟩,
            ⟨(some 58), .mov, [.tmp 1], none⟩,
            ⟨(some 59), .mov, [.tmp 2], none⟩,
            ⟨(some 60), .callg 47, [.tmp 55, .tmp 56, .tmp 57, .tmp 58, .tmp 59], none⟩] false)
          .skip)))
        (.ops [
          ⟨(some 61), .mov, [.tmp 6], none⟩,
          ⟨(some 62), .bin .mul .i64 false, [.tmp 61, .const (.int .i64 2)], none⟩,
          ⟨(some 6), .mov, [.tmp 62], none⟩] false))))))))))))⟩
theorem stabLow : lowF Try.prog { gvs := [18, 27, 43, 60] } Try.f40 = some stabIr := by kernel_rfl
set_option maxHeartbeats 1000000 in
theorem stabV : fnG Try.prog stabIr stabS := by
  intro ⟨rs, l, R⟩ hx
  obtain ⟨⟨hrg, hrs⟩, ⟨hst, hso⟩, hlen⟩ : ((∀ y ∈ l, 0 ≤ y ∧ y < rs.length) ∧ rs.length ≤ 1000000) ∧ (l.Pairwise (stb (keyR rs)) ∧ SortedOf (keyR rs) l R) ∧ l.length ≤ 1000000 := hx
  show vc _ _ _ _ ⟨argEnv 0 [.osl 0, I l.length, .fn 27 [.rp [.sl 1 (rs.map e1)]]], idxFrom 0 [.row 3 1 (l.map e1)], 1⟩
  conv => whnf
  refine ⟨Int × Int × (List (List CV)), fun xq => ⟨[(0, .osl 0), (1, I l.length), (2, .fn 27 [.rp [.sl 1 (rs.map e1)]]), (6, I 20), (7, I xq.1), (8, I xq.2.1)], [(0, .row 3 1 xq.2.2)], 1⟩, fun xq => ∃ (D E : List Int) (t : Nat), (xq.1 = D.length ∧ xq.2.1 = xq.1 + 20 ∧ D.length = t * 20) ∧ Mid (keyR rs) l (D ++ E) ∧ Blk (keyR rs) 20 D ∧ xq.2.2 = (D ++ E).map e1, fun xq => (l.length - xq.1).toNat, ⟨(_, _, _), ?_, [], ⟨⟨rfl, rfl⟩, ⟨⟨rfl, rfl⟩, ⟨⟨rfl, rfl⟩, ⟨⟨rfl, rfl⟩, ⟨⟨rfl, rfl⟩, ⟨⟨rfl, rfl⟩, trivial⟩⟩⟩⟩⟩⟩, ⟨⟨rfl, rfl, rfl⟩, trivial⟩, rfl, rfl, rfl⟩, ?_⟩
  · (try dsimp only); exact ⟨[], l, 0, ⟨rfl, rfl, rfl⟩, ⟨.refl _, hst⟩, blk_nil, rfl⟩
  rintro ⟨a, b, es⟩ hk
  obtain ⟨D, E, t, ⟨ha, hb, hD⟩, hm, hk, rfl⟩ : ∃ (D E : List Int) (t : Nat), (a = D.length ∧ b = a + 20 ∧ D.length = t * 20) ∧ Mid (keyR rs) l (D ++ E) ∧ Blk (keyR rs) 20 D ∧ es = (D ++ E).map e1 := hk
  (try dsimp only)
  have hml := hm.len
  rw [List.length_append] at hml
  by_cases hbn : b ≤ l.length
  · obtain ⟨A, S, rfl, hA, _, _⟩ := cut_at (E := E) (k := 20) (by omega)
    obtain ⟨RA, hRA⟩ := stb_ex hm.stA
    have hm2 := hm.part hRA
    have hRl := hRA.1.length_eq
    repeat' ((conv => whnf); first | (refine ⟨fun h => ?_, fun h => ?_⟩ <;> try (exfalso; first | omega | exact absurd h (by decide) | exact h rfl)) | refine ⟨[0], _, ins_g, ⟨rs, D, A, S, RA⟩, insPre hm hrg hrs hlen hRA, ⟨⟨⟨rfl, rfl, rfl⟩, trivial⟩, rfl, rfl, rfl⟩, ⟨⟨rfl, rfl⟩, (show leV (I _) (I (D.length)) from leI (by first | omega | (simp; done) | (simp; omega))), (show leV (I _) (I (D.length + A.length)) from leI (by first | omega | (simp; done) | (simp; omega))), rfl, trivial⟩, .inr ⟨rfl, ⟨cln1 _, trivial⟩, trivial⟩, ⟨⟨⟨⟨rfl, rfl⟩, by first | (simp; done) | (simp; omega)⟩, trivial⟩, trivial⟩, ?_⟩ | (refine ⟨(_, _, _), ⟨?_, by (try dsimp only); omega⟩, [], ⟨⟨rfl, rfl⟩, ⟨⟨rfl, rfl⟩, ⟨⟨rfl, rfl⟩, ⟨⟨rfl, rfl⟩, ⟨⟨rfl, rfl⟩, ⟨⟨rfl, rfl⟩, trivial⟩⟩⟩⟩⟩⟩, ⟨⟨rfl, rfl, rfl⟩, trivial⟩, rfl, rfl, rfl⟩; (try dsimp only); exact ⟨D ++ RA, S, t + 1, ⟨by rw [List.length_append]; omega, by omega, blk_len hD (by omega)⟩, by rw [List.append_assoc]; exact hm2, blk_snoc (by omega) hD hk hRA.2, by simp⟩) | refine ⟨⟨by omega, by omega⟩, ?_⟩ | fail)
  · rw [show D ++ E = D ++ (E ++ []) by simp] at hm ⊢
    obtain ⟨RE, hRE⟩ := stb_ex hm.stA
    have hm2 := hm.part hRE
    have hRl := hRE.1.length_eq
    rw [List.append_nil] at hm2
    have hk2 := blk_snoc (by omega) hD hk hRE.2
    repeat' ((conv => whnf); first | (refine ⟨fun h => ?_, fun h => ?_⟩ <;> try (exfalso; first | omega | exact absurd h (by decide) | exact h rfl)) | refine ⟨[0], _, ins_g, ⟨rs, D, E, [], RE⟩, insPre hm hrg hrs hlen hRE, ⟨⟨⟨rfl, rfl, rfl⟩, trivial⟩, rfl, rfl, rfl⟩, ⟨⟨rfl, rfl⟩, (show leV (I _) (I (D.length)) from leI (by first | omega | (simp; done) | (simp; omega))), (show leV (I _) (I (D.length + E.length)) from leI (by first | omega | (simp; done) | (simp; omega))), rfl, trivial⟩, .inr ⟨rfl, ⟨cln1 _, trivial⟩, trivial⟩, ⟨⟨⟨⟨rfl, rfl⟩, by first | (simp; done) | (simp; omega)⟩, trivial⟩, trivial⟩, ?_⟩ | fail | fail)
    refine ⟨Int × (List (List CV)), fun xq => ⟨[(0, .osl 0), (1, I l.length), (2, .fn 27 [.rp [.sl 1 (rs.map e1)]]), (6, I xq.1)], [(0, .row 3 1 xq.2)], 1⟩, fun xq => ∃ (k : Nat) (cur : List Int), (xq.1 = k ∧ 20 ≤ k ∧ k ≤ 2000000) ∧ Mid (keyR rs) l cur ∧ Blk (keyR rs) k cur ∧ xq.2 = cur.map e1, fun xq => (l.length - xq.1).toNat, ⟨(20, _), ?_, [], ⟨⟨rfl, rfl⟩, ⟨⟨rfl, rfl⟩, ⟨⟨rfl, rfl⟩, ⟨⟨rfl, rfl⟩, trivial⟩⟩⟩⟩, ⟨⟨rfl, rfl, rfl⟩, trivial⟩, rfl, rfl, rfl⟩, ?_⟩
    · (try dsimp only); exact ⟨20, D ++ RE, ⟨rfl, by omega, by omega⟩, hm2, hk2, by simp⟩
    rintro ⟨kk, es⟩ hk
    obtain ⟨k, cur, ⟨rfl, hk0, hk9⟩, hm3, hk3, rfl⟩ : ∃ (k : Nat) (cur : List Int), (kk = k ∧ 20 ≤ k ∧ k ≤ 2000000) ∧ Mid (keyR rs) l cur ∧ Blk (keyR rs) k cur ∧ es = cur.map e1 := hk
    (try dsimp only)
    clear hk2 hm2 hm hk hD ha hb hml hbn hRl hRE
    by_cases hkn : k < l.length
    · repeat' ((conv => whnf); first | (refine ⟨fun h => ?_, fun h => ?_⟩ <;> try (exfalso; first | omega | exact absurd h (by decide) | exact h rfl)) | refine ⟨⟨by omega, by omega⟩, ?_⟩ | fail | fail)
      refine ⟨Int × Int × (List (List CV)), fun xq => ⟨[(0, .osl 0), (1, I l.length), (2, .fn 27 [.rp [.sl 1 (rs.map e1)]]), (6, I k), (7, I xq.1), (8, I xq.2.1)], [(0, .row 3 1 xq.2.2)], 1⟩, fun xq => ∃ (D E : List Int) (t : Nat), (xq.1 = D.length ∧ xq.2.1 = xq.1 + 2 * k ∧ D.length = t * (2 * k)) ∧ Mid (keyR rs) l (D ++ E) ∧ Blk (keyR rs) (2 * k) D ∧ Blk (keyR rs) k E ∧ xq.2.2 = (D ++ E).map e1, fun xq => (l.length - xq.1).toNat, ⟨(_, _, _), ?_, [], ⟨⟨rfl, rfl⟩, ⟨⟨rfl, rfl⟩, ⟨⟨rfl, rfl⟩, ⟨⟨rfl, rfl⟩, ⟨⟨rfl, rfl⟩, ⟨⟨rfl, rfl⟩, trivial⟩⟩⟩⟩⟩⟩, ⟨⟨rfl, rfl, rfl⟩, trivial⟩, rfl, rfl, rfl⟩, ?_⟩
      · (try dsimp only); exact ⟨[], cur, 0, ⟨rfl, by omega, by simp⟩, hm3, blk_nil, hk3, rfl⟩
      rintro ⟨a, b, es⟩ hk
      obtain ⟨D, E, t, ⟨ha, hb, hD⟩, hm, hk, hkE, rfl⟩ : ∃ (D E : List Int) (t : Nat), (a = D.length ∧ b = a + 2 * k ∧ D.length = t * (2 * k)) ∧ Mid (keyR rs) l (D ++ E) ∧ Blk (keyR rs) (2 * k) D ∧ Blk (keyR rs) k E ∧ es = (D ++ E).map e1 := hk
      (try dsimp only)
      have hml := hm.len
      rw [List.length_append] at hml
      by_cases hbn : b ≤ l.length
      · obtain ⟨A, E2, rfl, hA, hA1, hA2⟩ := cut_at (E := E) (k := k) (by omega)
        rw [List.length_append] at hml
        obtain ⟨B, S, rfl, hB, hB1, hB2⟩ := cut_at (E := E2) (k := k) (by omega)
        have hAs := blk_take hkE
        have hk4 := blk_drop (by omega) hkE
        rw [hA1] at hAs
        rw [hA2] at hk4
        have hBs := blk_take hk4
        have hkS := blk_drop (by omega) hk4
        rw [hB1] at hBs
        rw [hB2] at hkS
        rw [← List.append_assoc A] at hm
        obtain ⟨RA, hRA⟩ := stb_ex hm.stA
        have hm2 := hm.part hRA
        have hRl := hRA.1.length_eq
        rw [List.length_append] at hRl
        repeat' ((conv => whnf); first | (refine ⟨fun h => ?_, fun h => ?_⟩ <;> try (exfalso; first | omega | exact absurd h (by decide) | exact h rfl)) | refine ⟨[0], _, (sym_g _), ⟨rs, D, A, B, S, RA⟩, symPre hm hrg hrs hlen hRA hAs hBs (by omega) (by omega), ⟨⟨⟨rfl, rfl, rfl⟩, trivial⟩, rfl, rfl, rfl⟩, ⟨⟨rfl, rfl⟩, (show leV (I _) (I (D.length)) from leI (by first | omega | (simp; done) | (simp; omega))), (show leV (I _) (I (D.length + A.length)) from leI (by first | omega | (simp; done) | (simp; omega))), (show leV (I _) (I (D.length + A.length + B.length)) from leI (by first | omega | (simp; done) | (simp; omega))), rfl, trivial⟩, .inr ⟨rfl, ⟨cln1 _, trivial⟩, trivial⟩, ⟨⟨⟨⟨rfl, rfl⟩, by first | (simp; done) | (simp; omega)⟩, trivial⟩, trivial⟩, ?_⟩ | (refine ⟨(_, _, _), ⟨?_, by (try dsimp only); omega⟩, [], ⟨⟨rfl, rfl⟩, ⟨⟨rfl, rfl⟩, ⟨⟨rfl, rfl⟩, ⟨⟨rfl, rfl⟩, ⟨⟨rfl, rfl⟩, ⟨⟨rfl, rfl⟩, trivial⟩⟩⟩⟩⟩⟩, ⟨⟨rfl, rfl, rfl⟩, trivial⟩, rfl, rfl, rfl⟩; (try dsimp only); exact ⟨D ++ RA, S, t + 1, ⟨by rw [List.length_append]; omega, by omega, blk_len hD (by omega)⟩, by rw [List.append_assoc]; exact hm2, blk_snoc (by omega) hD hk hRA.2, hkS, by simp⟩) | refine ⟨⟨by omega, by omega⟩, ?_⟩ | fail)
      · by_cases hmn : a + k < l.length
        · obtain ⟨A, B, rfl, hA, hA1, hA2⟩ := cut_at (E := E) (k := k) (by omega)
          rw [List.length_append] at hml
          have hAs := blk_take hkE
          have hk4 := blk_drop (by omega) hkE
          rw [hA1] at hAs
          rw [hA2] at hk4
          have hBs := blk_one hk4 (by omega)
          rw [show D ++ (A ++ B) = D ++ ((A ++ B) ++ []) by simp] at hm
          obtain ⟨RA, hRA⟩ := stb_ex hm.stA
          have hm2 := hm.part hRA
          have hRl := hRA.1.length_eq
          rw [List.length_append] at hRl
          rw [List.append_nil] at hm2
          have hb5 := blk_snoc (by omega) hD hk hRA.2
          repeat' ((conv => whnf); first | (refine ⟨fun h => ?_, fun h => ?_⟩ <;> try (exfalso; first | omega | exact absurd h (by decide) | exact h rfl)) | refine ⟨[0], _, (sym_g _), ⟨rs, D, A, B, [], RA⟩, symPre hm hrg hrs hlen hRA hAs hBs (by omega) (by omega), ⟨⟨⟨rowE (by simp), rfl, rfl⟩, trivial⟩, rfl, rfl, rfl⟩, ⟨⟨rfl, rfl⟩, (show leV (I _) (I (D.length)) from leI (by first | omega | (simp; done) | (simp; omega))), (show leV (I _) (I (D.length + A.length)) from leI (by first | omega | (simp; done) | (simp; omega))), (show leV (I _) (I (D.length + A.length + B.length)) from leI (by first | omega | (simp; done) | (simp; omega))), rfl, trivial⟩, .inr ⟨rfl, ⟨cln1 _, trivial⟩, trivial⟩, ⟨⟨⟨⟨rfl, rfl⟩, by first | (simp; done) | (simp; omega)⟩, trivial⟩, trivial⟩, ?_⟩ | (refine ⟨(_, _), ⟨?_, by (try dsimp only); omega⟩, [], ⟨⟨rfl, rfl⟩, ⟨⟨rfl, rfl⟩, ⟨⟨rfl, rfl⟩, ⟨⟨rfl, rfl⟩, trivial⟩⟩⟩⟩, ⟨⟨rfl, rfl, rfl⟩, trivial⟩, rfl, rfl, rfl⟩; (try dsimp only); exact ⟨2 * k, D ++ RA, ⟨by omega, by omega, by omega⟩, hm2, hb5, by simp⟩) | refine ⟨⟨by omega, by omega⟩, ?_⟩ | fail)
        · have hEs := blk_one hkE (by omega)
          have hb5 := blk_snoc (by omega) hD hk hEs
          repeat' ((conv => whnf); first | (refine ⟨fun h => ?_, fun h => ?_⟩ <;> try (exfalso; first | omega | exact absurd h (by decide) | exact h rfl)) | (refine ⟨(_, _), ⟨?_, by (try dsimp only); omega⟩, [], ⟨⟨rfl, rfl⟩, ⟨⟨rfl, rfl⟩, ⟨⟨rfl, rfl⟩, ⟨⟨rfl, rfl⟩, trivial⟩⟩⟩⟩, ⟨⟨rfl, rfl, rfl⟩, trivial⟩, rfl, rfl, rfl⟩; (try dsimp only); exact ⟨2 * k, D ++ E, ⟨by omega, by omega, by omega⟩, hm, hb5, rfl⟩) | refine ⟨⟨by omega, by omega⟩, ?_⟩ | fail)
    · have hfin := sorted_uniq ⟨hm3.perm, blk_one hk3 (by have := hm3.len; omega)⟩ hso
      subst hfin
      repeat' ((conv => whnf); first | (refine ⟨fun h => ?_, fun h => ?_⟩ <;> try (exfalso; first | omega | exact absurd h (by decide) | exact h rfl)) | fail | fail)
      exact ⟨[], rfl, rfl, ⟨⟨rfl, rfl⟩, trivial⟩, trivial⟩
theorem stab_g : HoldsG Try.prog 40 stabS := holdsG_of mix Try.func40 stabLow (fun _ => rfl) stabV

/-! slices.SortStableFunc[[]int,int] -/
def sortIr : IFn := ⟨9, [],
  (.ops [
    ⟨(some 4), .mov, [.tmp 0], none⟩,
    ⟨(some 5), .mov, [.tmp 0], none⟩,
    ⟨(some 6), .len, [.tmp 5], none⟩,
    ⟨(some 7), .mov, [.tmp 1], none⟩,
    ⟨(some 8), .callg 40, [.tmp 4, .tmp 6, .tmp 7], none⟩] false)⟩
theorem sortLow : lowF Try.prog { gvs := [8] } Try.f26 = some sortIr := by kernel_rfl
theorem sortV : fnG Try.prog sortIr sortS := by
  intro ⟨rs, l, R⟩ hx
  show vc _ _ _ _ ⟨argEnv 0 [.osl 0, .fn 27 [.rp [.sl 1 (rs.map e1)]]], idxFrom 0 [.row 3 1 (l.map e1)], 1⟩
  conv => whnf
  refine ⟨[0], _, stab_g, ⟨rs, l, R⟩, hx, ⟨⟨⟨rfl, rfl, rfl⟩, trivial⟩, rfl, rfl, rfl⟩, ⟨⟨rfl, rfl⟩, (show leV (I _) (I l.length) from leI (by rw [List.length_map])), rfl, trivial⟩, .inr ⟨rfl, ⟨cln1 _, trivial⟩, trivial⟩, ⟨⟨⟨⟨rfl, rfl⟩, by (show (R.map e1).length = (l.map e1).length; rw [List.length_map, List.length_map]; exact hx.2.1.2.1.length_eq)⟩, trivial⟩, trivial⟩, ?_⟩
  conv => whnf
  exact ⟨[], rfl, rfl, ⟨⟨rfl, rfl⟩, trivial⟩, trivial⟩
theorem sort_g : HoldsG Try.prog 26 sortS := holdsG_of mix Try.func26 sortLow (fun _ => rfl) sortV

end Go.Proofs.Ytepacknnggnifaa
