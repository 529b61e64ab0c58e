/- Split: slices.insertionSort. -/
import Derived.Test.YtepacknnggnifaaF3
namespace Go.Proofs.Ytepacknnggnifaa
open Go.RowKit

theorem cl : callable Try.prog 27 = true := by kernel_rfl
structure InsX where
  rs : List Int
  P : List Int
  A : List Int
  S : List Int
  R : List Int
def insS : GSpec := ⟨InsX, fun x => [.row 3 1 ((x.P ++ (x.A ++ x.S)).map e1)], fun x => [.osl 0, I x.P.length, I (x.P.length + x.A.length), .fn 27 [.rp [.sl 1 (x.rs.map e1)]]],
  fun x => ((∀ y ∈ x.A, 0 ≤ y ∧ y < x.rs.length) ∧ x.rs.length ≤ 1000000 ∧ x.A.Pairwise (stb (keyR x.rs)) ∧ SortedOf (keyR x.rs) x.A x.R) ∧ (x.P ++ (x.A ++ x.S)).length ≤ 1000000, fun _ => .tup [], fun x => [.row 3 1 ((x.P ++ (x.R ++ x.S)).map e1)], fun _ => []⟩
/-- x comes behind D1 and ahead of D2. -/
theorem ins_done {f : Int → Int} {A0 D1 D2 : List Int} {x : Int} (h : SortedOf f A0 (D1 ++ D2)) (h1 : ∀ y ∈ D1, bef f y x) (h2 : ∀ y ∈ D2, bef f x y) : SortedOf f (A0 ++ [x]) (D1 ++ x :: D2) := by
  refine ⟨List.perm_middle.trans ((h.1.cons x).trans (List.perm_append_comm (l₁ := [x]) (l₂ := A0))), ?_⟩
  have h3 := h.2
  rw [List.pairwise_append] at h3 ⊢
  refine ⟨h3.1, List.pairwise_cons.2 ⟨h2, h3.2.1⟩, fun a ha b hb => ?_⟩
  rcases List.mem_cons.1 hb with rfl | hb
  · exact h1 a ha
  · exact h3.2.2 a ha b hb

/-! slices.insertionSortCmpFunc[int] -/
def insIr : IFn := ⟨53, [],
  (.seq (.ops [
    ⟨(some 10), .mov, [.tmp 1], none⟩,
    ⟨(some 11), .bin .add .i64 false, [.tmp 10, .const (.int .i64 1)], none⟩,
    ⟨(some 8), .mov, [.tmp 11], none⟩] false)
  (.block 0
    (.loop
      (.seq (.seq (.ops [
        ⟨(some 12), .mov, [.tmp 8], none⟩,
        ⟨(some 13), .mov, [.tmp 2], none⟩,
        ⟨(some 14), .cmp .lss, [.tmp 12, .tmp 13], none⟩] false)
      (.cond (.tmp 14)
        .skip
        (.exit 0)))
      (.seq (.block 1
        (.seq (.ops [
          ⟨(some 17), .mov, [.tmp 8], none⟩,
          ⟨(some 9), .mov, [.tmp 17], none⟩] false)
        (.block 2
          (.loop
            (.seq (.seq (.ops [
              ⟨(some 18), .mov, [.tmp 9], none⟩,
              ⟨(some 19), .mov, [.tmp 1], none⟩,
              ⟨(some 20), .cmp .gtr, [.tmp 18, .tmp 19], none⟩,
              ⟨(some 21), .mov, [.tmp 20], none⟩,
              ⟨(some 22), .mov, [.tmp 3], (some (21, true))⟩,
              ⟨(some 23), .mov, [.tmp 0], (some (21, true))⟩,
              ⟨(some 24), .mov, [.tmp 9], (some (21, true))⟩,
              ⟨(some 25), .idx 1, [.tmp 23, .tmp 24], (some (21, true))⟩,
              ⟨(some 26), .load 1 false, [.tmp 25], (some (21, true))⟩,
              ⟨(some 27), .mov, [.tmp 0], (some (21, true))⟩,
              ⟨(some 28), .mov, [.tmp 9], (some (21, true))⟩,
              ⟨(some 29), .bin .sub .i64 false, [.tmp 28, .const (.int .i64 1)], (some (21, true))⟩,
              ⟨(some 30), .idx 1, [.tmp 27, .tmp 29], (some (21, true))⟩,
              ⟨(some 31), .load 1 false, [.tmp 30], (some (21, true))⟩,
              ⟨(some 32), .callv, [.tmp 22, .tmp 26, .tmp 31], (some (21, true))⟩,
              ⟨(some 33), .cmp .lss, [.tmp 32, .const (.int .i64 0)], (some (21, true))⟩,
              ⟨(some 34), .pick, [.tmp 21, .tmp 33, .const (.bool false)], none⟩] true)
            (.cond (.tmp 34)
              .skip
              (.exit 2)))
            (.seq (.block 3
              (.ops [
                ⟨(some 37), .mov, [.tmp 0], none⟩,
                ⟨(some 38), .mov, [.tmp 9], none⟩,
                ⟨(some 39), .mov, [.tmp 0], none⟩,
                ⟨(some 40), .mov, [.tmp 9], none⟩,
                ⟨(some 41), .bin .sub .i64 false, [.tmp 40, .const (.int .i64 1)], none⟩,
                ⟨(some 42), .mov, [.tmp 0], none⟩,
                ⟨(some 43), .mov, [.tmp 9], none⟩,
                ⟨(some 44), .bin .sub .i64 false, [.tmp 43, .const (.int .i64 1)], none⟩,
                ⟨(some 45), .idx 1, [.tmp 42, .tmp 44], none⟩,
                ⟨(some 46), .load 1 false, [.tmp 45], none⟩,
                ⟨(some 47), .mov, [.tmp 0], none⟩,
                ⟨(some 48), .mov, [.tmp 9], none⟩,
                ⟨(some 49), .idx 1, [.tmp 47, .tmp 48], none⟩,
                ⟨(some 50), .load 1 false, [.tmp 49], none⟩,
                ⟨(some 51), .idx 1, [.tmp 37, .tmp 38], none⟩,
                ⟨none, .store 1, [.tmp 51, .tmp 46], none⟩,
                ⟨(some 52), .idx 1, [.tmp 39, .tmp 41], none⟩,
                ⟨none, .store 1, [.tmp 52, .tmp 50], none⟩] true))
            (.ops [
              ⟨(some 35), .mov, [.tmp 9], none⟩,
              ⟨(some 36), .bin .sub .i64 false, [.tmp 35, .const (.int .i64 1)], none⟩,
              ⟨(some 9), .mov, [.tmp 36], none⟩] false)))))))
      (.ops [
        ⟨(some 15), .mov, [.tmp 8], none⟩,
        ⟨(some 16), .bin .add .i64 false, [.tmp 15, .const (.int .i64 1)], none⟩,
        ⟨(some 8), .mov, [.tmp 16], none⟩] false))))))⟩
theorem insLow : lowF Try.prog {} Try.f46 = some insIr := by kernel_rfl
theorem insV : fnG Try.prog insIr insS := by
  intro ⟨rs, P, A, S, R⟩ hx
  obtain ⟨⟨hA, hrs, hst, hso⟩, hlen⟩ : ((∀ y ∈ A, 0 ≤ y ∧ y < rs.length) ∧ rs.length ≤ 1000000 ∧ A.Pairwise (stb (keyR rs)) ∧ SortedOf (keyR rs) A R) ∧ (P ++ (A ++ S)).length ≤ 1000000 := hx
  simp only [List.length_append] at hlen
  cases A with
  | nil =>
    have hR : R = [] := List.Perm.eq_nil hso.1
    subst hR
    show vc _ _ _ _ ⟨argEnv 0 [.osl 0, I P.length, I (P.length + ([] : List Int).length), .fn 27 [.rp [.sl 1 (rs.map e1)]]], idxFrom 0 [.row 3 1 ((P ++ ([] ++ S)).map e1)], 1⟩
    simp only [List.length_nil] at hlen
    conv => whnf
    refine ⟨⟨by omega, by omega⟩, ?_⟩
    conv => whnf
    refine ⟨Int, fun i => ⟨[(8, I i), (2, I (P.length + ([] : List Int).length))], [(0, .row 3 1 ((P ++ ([] ++ S)).map e1))], 1⟩, fun i => i = P.length + 1, fun _ => 0, ⟨_, rfl, [(0, 0)], ⟨⟨rfl, rfl⟩, ⟨⟨rfl, rfl⟩, trivial⟩⟩, ⟨⟨rfl, rfl, rfl⟩, trivial⟩, rfl, rfl, rfl⟩, fun i hi => ?_⟩
    replace hi : i = P.length + 1 := hi
    subst hi
    conv => whnf
    refine ⟨fun h => absurd h (by simp only [List.length_nil]; omega), fun _ => ?_⟩
    conv => whnf
    exact ⟨[], rfl, rfl, ⟨⟨rfl, rfl⟩, trivial⟩, trivial⟩
  | cons a A =>
  show vc _ _ _ _ ⟨argEnv 0 [.osl 0, I P.length, I (P.length + (a :: A).length), .fn 27 [.rp [.sl 1 (rs.map e1)]]], idxFrom 0 [.row 3 1 ((P ++ ((a :: A) ++ S)).map e1)], 1⟩
  have hAl : (a :: A).length = A.length + 1 := rfl
  conv => whnf
  refine ⟨⟨by omega, by omega⟩, ?_⟩
  conv => whnf
  refine ⟨Int × (List (List CV)), fun xq => ⟨[(0, .osl 0), (1, I P.length), (2, I (P.length + (a :: A).length)), (3, .fn 27 [.rp [.sl 1 (rs.map e1)]]), (8, I xq.1)], [(0, .row 3 1 xq.2)], 1⟩, fun xq => ∃ A0 D E : List Int, (a :: A = A0 ++ E ∧ SortedOf (keyR rs) A0 D) ∧ (0 < A0.length ∧ xq.1 = P.length + A0.length) ∧ xq.2 = (P ++ (D ++ (E ++ S))).map e1, fun xq => (P.length + (a :: A).length - xq.1).toNat, ⟨(_, _), ?_, [], ⟨⟨rfl, rfl⟩, ⟨⟨rfl, rfl⟩, ⟨⟨rfl, rfl⟩, ⟨⟨rfl, rfl⟩, ⟨⟨rfl, rfl⟩, trivial⟩⟩⟩⟩⟩, ⟨⟨rfl, rfl, rfl⟩, trivial⟩, rfl, rfl, rfl⟩, ?_⟩
  · (try dsimp only); exact ⟨[a], [a], A, ⟨rfl, .refl _, List.pairwise_singleton _ _⟩, ⟨by simp, rfl⟩, rfl⟩
  rintro ⟨i, es⟩ hk
  obtain ⟨A0, D, E, ⟨hAE, hD⟩, ⟨h0, hi⟩, rfl⟩ : ∃ A0 D E : List Int, (a :: A = A0 ++ E ∧ SortedOf (keyR rs) A0 D) ∧ (0 < A0.length ∧ i = P.length + A0.length) ∧ es = (P ++ (D ++ (E ++ S))).map e1 := hk
  (try dsimp only)
  have hDl := hD.1.length_eq
  have hEl := congrArg List.length hAE
  rw [List.length_append] at hEl
  by_cases hik : i < P.length + (a :: A).length
  · obtain ⟨x, E, rfl⟩ := first_of (l := E) (by omega)
    simp only [List.length_cons] at hEl
    have hxr : 0 ≤ x ∧ x < rs.length := hA x (by rw [hAE]; simp)
    have hxs : ∀ y ∈ A0, stb (keyR rs) y x := by
      rw [hAE, List.pairwise_append] at hst
      exact fun y hy => hst.2.2 y hy x (by simp)
    repeat' ((conv => whnf); first | (refine ⟨fun h => ?_, fun h => ?_⟩ <;> try (exfalso; first | omega | exact absurd h (by decide) | exact h rfl)) | fail | fail)
    refine ⟨Int × (List (List CV)), fun xq => ⟨[(0, .osl 0), (1, I P.length), (2, I (P.length + (a :: A).length)), (3, .fn 27 [.rp [.sl 1 (rs.map e1)]]), (8, I i), (9, I xq.1)], [(0, .row 3 1 xq.2)], 1⟩, fun xq => ∃ D1 D2 : List Int, D = D1 ++ D2 ∧ (∀ y ∈ D2, keyR rs y < keyR rs x) ∧ xq.1 = P.length + D1.length ∧ xq.2 = (P ++ (D1 ++ (x :: (D2 ++ (E ++ S))))).map e1, fun xq => xq.1.toNat, ⟨(_, _), ?_, [], ⟨⟨rfl, rfl⟩, ⟨⟨rfl, rfl⟩, ⟨⟨rfl, rfl⟩, ⟨⟨rfl, rfl⟩, ⟨⟨rfl, rfl⟩, ⟨⟨rfl, rfl⟩, trivial⟩⟩⟩⟩⟩⟩, ⟨⟨rfl, rfl, rfl⟩, trivial⟩, rfl, rfl, rfl⟩, ?_⟩
    · (try dsimp only); exact ⟨D, [], by simp, by simp, by omega, by simp⟩
    rintro ⟨j, es⟩ hk
    obtain ⟨D1, D2, hDD, hlt, hj, rfl⟩ : ∃ D1 D2 : List Int, D = D1 ++ D2 ∧ (∀ y ∈ D2, keyR rs y < keyR rs x) ∧ j = P.length + D1.length ∧ es = (P ++ (D1 ++ (x :: (D2 ++ (E ++ S))))).map e1 := hk
    (try dsimp only)
    have hDl2 := congrArg List.length hDD
    rw [List.length_append] at hDl2
    have done : (∀ y ∈ D1, bef (keyR rs) y x) → SortedOf (keyR rs) (A0 ++ [x]) (D1 ++ x :: D2) := fun h1 => ins_done (hDD ▸ hD) h1 fun y hy => .inl (hlt y hy)
    by_cases hd : 0 < D1.length
    · obtain ⟨D3, y, rfl⟩ := last_of hd
      have hym : y ∈ A0 := hD.1.mem_iff.1 (by rw [hDD]; simp)
      have hyr : 0 ≤ y ∧ y < rs.length := hA y (by rw [hAE]; simp [hym])
      have hc := cmpI_lt (keyR rs y) (keyR rs x)
      rw [List.length_append, List.length_singleton] at hj hDl2
      have hes : P ++ (D3 ++ [y] ++ (x :: (D2 ++ (E ++ S)))) = (P ++ D3) ++ y :: x :: (D2 ++ (E ++ S)) := by simp
      have i1 : j.toNat = (P ++ D3).length + 1 := by rw [List.length_append]; omega
      have i2 : (j - 1).toNat = (P ++ D3).length := by rw [List.length_append]; omega
      have hl1 : ((((P ++ D3) ++ y :: x :: (D2 ++ (E ++ S))).map e1).length : Int) = P.length + (a :: A).length + S.length := by simp only [List.length_map, List.length_append, List.length_cons]; omega
      have g1 : (((P ++ D3) ++ y :: x :: (D2 ++ (E ++ S))).map e1)[j.toNat]? = some [.int .i64 x] := get_e1 (by rw [i1]; exact get_mid2 _ _ _ _)
      have g2 : (((P ++ D3) ++ y :: x :: (D2 ++ (E ++ S))).map e1)[(j - 1).toNat]? = some [.int .i64 y] := get_e1 (by rw [i2]; exact get_mid _ _ _)
      have g3 : ((((P ++ D3) ++ y :: x :: (D2 ++ (E ++ S))).map e1).set j.toNat [.int .i64 y])[(j - 1).toNat]? = some [.int .i64 y] := by rw [List.getElem?_set_ne (by omega)]; exact g2
      have g4 : ((((P ++ D3) ++ y :: x :: (D2 ++ (E ++ S))).map e1).set j.toNat [.int .i64 y]).set (j - 1).toNat [.int .i64 x] = (P ++ (D3 ++ (x :: ((y :: D2) ++ (E ++ S))))).map e1 := by
        rw [map_set1, map_set1, i1, i2, swap_mid]; simp
      by_cases hyx : keyR rs y < keyR rs x
      · rw [hes]
        generalize (((P ++ D3) ++ y :: x :: (D2 ++ (E ++ S))).map e1) = cur at *
        repeat' ((conv => whnf); first | (refine ⟨fun h => ?_, fun h => ?_⟩ <;> try (exfalso; first | omega | exact absurd h (by decide) | exact h rfl)) | (refine ⟨cl, _, less_h, (rs, x, y), ⟨⟨hxr, hyr⟩, hrs⟩, leVs_of_eq rfl, .inr rfl, rfl, ?_⟩; show norm (I (cmpI (keyR rs y) (keyR rs x))) _) | refine get_at g1 ?_ | refine get_at g2 ?_ | refine get_at g3 ?_ | (refine ⟨(_, _), ⟨?_, by (try dsimp only); omega⟩, [], ⟨⟨rfl, rfl⟩, ⟨⟨rfl, rfl⟩, ⟨⟨rfl, rfl⟩, ⟨⟨rfl, rfl⟩, ⟨⟨rfl, rfl⟩, ⟨⟨rfl, rfl⟩, trivial⟩⟩⟩⟩⟩⟩, ⟨⟨rfl, rfl, rfl⟩, trivial⟩, rfl, rfl, rfl⟩; (try dsimp only); exact ⟨D3, y :: D2, by rw [hDD]; simp, fun z hz => (List.mem_cons.1 hz).elim (fun e => by rw [e]; exact hyx) (hlt z), by omega, g4⟩) | refine ⟨⟨by omega, by omega⟩, ?_⟩ | refine ⟨⟨by omega, by (rw [List.length_set]; omega)⟩, ?_⟩ | fail)
      · have hso2 := done fun z hz => by
          have hyx' : bef (keyR rs) y x := bef_of (hxs y hym) (by omega)
          rcases List.mem_append.1 hz with hz | hz
          · have h3 := hD.2
            rw [hDD, List.pairwise_append, List.pairwise_append] at h3
            exact bef_trans (h3.1.2.2 z hz y (by simp)) hyx'
          · rw [List.mem_singleton] at hz; subst hz; exact hyx'
        rw [hes]
        generalize hcur : (((P ++ D3) ++ y :: x :: (D2 ++ (E ++ S))).map e1) = cur at *
        repeat' ((conv => whnf); first | (refine ⟨fun h => ?_, fun h => ?_⟩ <;> try (exfalso; first | omega | exact absurd h (by decide) | exact h rfl)) | (refine ⟨cl, _, less_h, (rs, x, y), ⟨⟨hxr, hyr⟩, hrs⟩, leVs_of_eq rfl, .inr rfl, rfl, ?_⟩; show norm (I (cmpI (keyR rs y) (keyR rs x))) _) | refine get_at g1 ?_ | refine get_at g2 ?_ | (refine ⟨(_, _), ⟨?_, by (try dsimp only); omega⟩, [], ⟨⟨rfl, rfl⟩, ⟨⟨rfl, rfl⟩, ⟨⟨rfl, rfl⟩, ⟨⟨rfl, rfl⟩, ⟨⟨rfl, rfl⟩, trivial⟩⟩⟩⟩⟩, ⟨⟨rfl, rfl, rfl⟩, trivial⟩, rfl, rfl, rfl⟩; (try dsimp only); exact ⟨A0 ++ [x], _, E, ⟨by rw [hAE]; simp, hso2⟩, ⟨by simp, by rw [List.length_append]; simp; omega⟩, by rw [← hcur]; simp⟩) | refine ⟨⟨by omega, by omega⟩, ?_⟩ | fail)
    · have hd1 : D1 = [] := List.eq_nil_of_length_eq_zero (by omega)
      have hso2 := done (by subst hd1; simp)
      repeat' ((conv => whnf); first | (refine ⟨fun h => ?_, fun h => ?_⟩ <;> try (exfalso; first | omega | exact absurd h (by decide) | exact h rfl)) | (refine ⟨(_, _), ⟨?_, by (try dsimp only); omega⟩, [], ⟨⟨rfl, rfl⟩, ⟨⟨rfl, rfl⟩, ⟨⟨rfl, rfl⟩, ⟨⟨rfl, rfl⟩, ⟨⟨rfl, rfl⟩, trivial⟩⟩⟩⟩⟩, ⟨⟨rfl, rfl, rfl⟩, trivial⟩, rfl, rfl, rfl⟩; (try dsimp only); exact ⟨A0 ++ [x], _, E, ⟨by rw [hAE]; simp, hso2⟩, ⟨by simp, by rw [List.length_append]; simp; omega⟩, by simp⟩) | refine ⟨⟨by omega, by omega⟩, ?_⟩ | fail)
  · have hE : E = [] := List.eq_nil_of_length_eq_zero (by omega)
    subst hE
    rw [List.append_nil] at hAE
    rw [← hAE] at hD
    have hR := sorted_uniq hD hso
    subst hR
    repeat' ((conv => whnf); first | (refine ⟨fun h => ?_, fun h => ?_⟩ <;> try (exfalso; first | omega | exact absurd h (by decide) | exact h rfl)) | fail | fail)
    exact ⟨[], rfl, rfl, ⟨⟨rfl, rfl⟩, trivial⟩, trivial⟩
theorem ins_g : HoldsG Try.prog 46 insS := holdsG_of mix Try.func46 insLow (fun _ => rfl) insV

end Go.Proofs.Ytepacknnggnifaa
