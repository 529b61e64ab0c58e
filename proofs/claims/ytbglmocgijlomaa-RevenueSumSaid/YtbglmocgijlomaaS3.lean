/- Split, printed for this seat. No statement in sight. -/
import Derived.Test.YtbglmocgijlomaaS1
import Derived.Test.YtbglmocgijlomaaS2
/- The stages of a stable sort: plain. No program in sight. -/
namespace Go.Proofs.Ytbglmocgijlomaa

/-- What stands in the row on the way. -/
structure Mid (f : Int → Int) (l cur : List Int) : Prop where
  perm : cur.Perm l
  st : cur.Pairwise (stb f)
theorem Mid.part {f : Int → Int} {l P A R S : List Int} (h : Mid f l (P ++ (A ++ S))) (k : SortedOf f A R) : Mid f l (P ++ (R ++ S)) :=
  ⟨(List.Perm.append_left P (List.Perm.append_right S k.1)).trans h.perm, stb_part h.st k⟩
theorem Mid.stA {f : Int → Int} {l P A S : List Int} (h : Mid f l (P ++ (A ++ S))) : A.Pairwise (stb f) := by
  have := h.st
  rw [List.pairwise_append, List.pairwise_append] at this
  exact this.2.1.1
theorem Mid.cross {f : Int → Int} {l P A B S : List Int} (h : Mid f l (P ++ ((A ++ B) ++ S))) : ∀ y ∈ A, ∀ z ∈ B, stb f y z := by
  have := h.stA
  rw [List.pairwise_append] at this
  exact this.2.2
theorem Mid.mem {f : Int → Int} {l P A S : List Int} (h : Mid f l (P ++ (A ++ S))) {y : Int} (hy : y ∈ A) : y ∈ l := h.perm.mem_iff.1 (by simp [hy])
theorem Mid.len {f : Int → Int} {l cur : List Int} (h : Mid f l cur) : cur.length = l.length := h.perm.length_eq
theorem blk_snoc {f : Int → Int} {k t : Nat} {D R : List Int} (hk : 0 < k) (hd : D.length = t * k) (h : Blk f k D) (hR : R.Pairwise (bef f)) : Blk f k (D ++ R) := (blk_app hk hd).2 ⟨h, blk_of hR⟩
theorem blk_nil {f : Int → Int} {k : Nat} : Blk f k [] := fun p q x y _ _ hx => by simp at hx
theorem blk_len {k t : Nat} {D R : List Int} (hd : D.length = t * k) (hR : R.length = k) : (D ++ R).length = (t + 1) * k := by rw [List.length_append, hd, hR, Nat.succ_mul]
theorem cut_at {E : List Int} {k : Nat} (h : k ≤ E.length) : ∃ A S, E = A ++ S ∧ A.length = k ∧ E.take k = A ∧ E.drop k = S := ⟨E.take k, E.drop k, (List.take_append_drop ..).symm, by rw [List.length_take]; omega, rfl, rfl⟩
end Go.Proofs.Ytbglmocgijlomaa

/- Split: slices.SortStableFunc. -/
namespace Go.Proofs.Ytbglmocgijlomaa
open Go.RowKit

structure StX where
  rs : List Int
  l : List Int
  R : List Int
def stP (x : StX) : Prop := ((∀ y ∈ x.l, 0 ≤ y ∧ y < x.rs.length) ∧ x.rs.length ≤ 1000000) ∧ (x.l.Pairwise (stb (keyR x.rs)) ∧ SortedOf (keyR x.rs) x.l x.R) ∧ x.l.length ≤ 1000000
def stabS : GSpec := ⟨StX, fun x => [.row 3 1 (x.l.map e1)], fun x => [.osl 0, I x.l.length, .fn 52 [.rp [.sl 1 (x.rs.map e1)]]], stP, fun _ => .tup [], fun x => [.row 3 1 (x.R.map e1)], fun _ => []⟩
def sortS : GSpec := ⟨StX, fun x => [.row 3 1 (x.l.map e1)], fun x => [.osl 0, .fn 52 [.rp [.sl 1 (x.rs.map e1)]]], stP, fun _ => .tup [], fun x => [.row 3 1 (x.R.map e1)], fun _ => []⟩
theorem insPre {rs l P A S R : List Int} (hm : Mid (keyR rs) l (P ++ (A ++ S))) (hrg : ∀ y ∈ l, 0 ≤ y ∧ y < rs.length) (hrs : rs.length ≤ 1000000) (hl : l.length ≤ 1000000) (hR : SortedOf (keyR rs) A R) : insS.pre ⟨rs, P, A, S, R⟩ :=
  ⟨⟨fun y hy => hrg y (hm.mem hy), hrs, hm.stA, hR⟩, by show (P ++ (A ++ S)).length ≤ 1000000; rw [hm.len]; exact hl⟩
theorem symPre {rs l P A B S R : List Int} (hm : Mid (keyR rs) l (P ++ ((A ++ B) ++ S))) (hrg : ∀ y ∈ l, 0 ≤ y ∧ y < rs.length) (hrs : rs.length ≤ 1000000) (hl : l.length ≤ 1000000) (hR : SortedOf (keyR rs) (A ++ B) R) (hA : A.Pairwise (bef (keyR rs))) (hB : B.Pairwise (bef (keyR rs))) (h1 : 0 < A.length) (h2 : 0 < B.length) : (symS (A.length + B.length)).pre ⟨rs, P, A, B, S, R⟩ :=
  ⟨⟨fun y hy => hrg y (hm.mem hy), hrs⟩, ⟨hA, hB, hm.cross, hR⟩, ⟨h1, h2, Nat.le_refl _⟩, by show (P ++ (A ++ (B ++ S))).length ≤ 1000000; rw [← List.append_assoc A, hm.len]; exact hl⟩

/-! slices.stableCmpFunc[int] -/
def stabIr : IFn := ⟨63, [],
  (.seq (.ops [
    ⟨(some 6), .mov, [.const (.int .i64 20)], none⟩] false)
  (.seq (.ops [
    ⟨(some 10), .mov, [.tmp 6], none⟩,
    ⟨(some 7), .mov, [.const (.int .i64 0)], none⟩,
    ⟨(some 8), .mov, [.tmp 10], none⟩] false)
  (.seq (.block 0
    (.loop
      (.seq (.seq (.ops [
        ⟨(some 11), .mov, [.tmp 8], none⟩,
        ⟨(some 12), .mov, [.tmp 1], none⟩,
        ⟨(some 13), .cmp .leq, [.tmp 11, .tmp 12], none⟩] false)
      (.cond (.tmp 13)
        .skip
        (.exit 0)))
      (.block 1
        (.seq (.ops [
          ⟨(some 14), .mov, [.tmp 0], none⟩,
          ⟨(some 15), .mov, [.tmp 7], none⟩,
          ⟨(some 16), .mov, [.tmp 8], none⟩,
          ⟨(some 17), .mov, [.tmp 2], none⟩,
          ⟨(some 18), .callg 83, [.tmp 14, .tmp 15, .tmp 16, .tmp 17], none⟩] false)
        (.seq (.ops [
          ⟨(some 19), .mov, [.tmp 8], none⟩,
          ⟨(some 7), .mov, [.tmp 19], none⟩] false)
        (.ops [
          ⟨(some 20), .mov, [.tmp 8], none⟩,
          ⟨(some 21), .mov, [.tmp 6], none⟩,
          ⟨(some 22), .bin .add .i64 false, [.tmp 20, .tmp 21], none⟩,
          ⟨(some 8), .mov, [.tmp 22], none⟩] false)))))))
  (.seq (.ops [
    ⟨(some 23), .mov, [.tmp 0], none⟩,
    ⟨(some 24), .mov, [.tmp 7], none⟩,
    ⟨(some 25), .mov, [.tmp 1], none⟩,
    ⟨(some 26), .mov, [.tmp 2], none⟩,
    ⟨(some 27), .callg 83, [.tmp 23, .tmp 24, .tmp 25, .tmp 26], none⟩] false)
  (.block 2
    (.loop
      (.seq (.seq (.ops [
        ⟨(some 28), .mov, [.tmp 6], none⟩,
        ⟨(some 29), .mov, [.tmp 1], none⟩,
        ⟨(some 30), .cmp .lss, [.tmp 28, .tmp 29], none⟩] false)
      (.cond (.tmp 30)
        .skip
        (.exit 2)))
      (.block 3
        (.seq (.ops [
          ⟨(some 31), .mov, [.tmp 6], none⟩,
          ⟨(some 32), .bin .mul .i64 false, [.const (.int .i64 2), .tmp 31], none⟩,
          ⟨(some 7), .mov, [.const (.int .i64 0)], none⟩,
          ⟨(some 8), .mov, [.tmp 32], none⟩] false)
        (.seq (.block 4
          (.loop
            (.seq (.seq (.ops [
              ⟨(some 33), .mov, [.tmp 8], none⟩,
              ⟨(some 34), .mov, [.tmp 1], none⟩,
              ⟨(some 35), .cmp .leq, [.tmp 33, .tmp 34], none⟩] false)
            (.cond (.tmp 35)
              .skip
              (.exit 4)))
            (.block 5
              (.seq (.ops [
                ⟨(some 36), .mov, [.tmp 0], none⟩,
                ⟨(some 37), .mov, [.tmp 7], none⟩,
                ⟨(some 38), .mov, [.tmp 7], none⟩,
                ⟨(some 39), .mov, [.tmp 6], none⟩,
                ⟨(some 40), .bin .add .i64 false, [.tmp 38, .tmp 39], none⟩,
                ⟨(some 41), .mov, [.tmp 8], none⟩,
                ⟨(some 42), .mov, [.tmp 2], none⟩,
                ⟨(some 43), .callg 84, [.tmp 36, .tmp 37, .tmp 40, .tmp 41, .tmp 42], none⟩] false)
              (.seq (.ops [
                ⟨(some 44), .mov, [.tmp 8], none⟩,
                ⟨(some 7), .mov, [.tmp 44], none⟩] false)
              (.ops [
                ⟨(some 45), .mov, [.tmp 8], none⟩,
                ⟨(some 46), .mov, [.tmp 6], none⟩,
                ⟨(some 47), .bin .mul .i64 false, [.const (.int .i64 2), .tmp 46], none⟩,
                ⟨(some 48), .bin .add .i64 false, [.tmp 45, .tmp 47], none⟩,
                ⟨(some 8), .mov, [.tmp 48], none⟩] false)))))))
        (.seq (.seq (.ops [
          ⟨(some 49), .mov, [.tmp 7], none⟩,
          ⟨(some 50), .mov, [.tmp 6], none⟩,
          ⟨(some 51), .bin .add .i64 false, [.tmp 49, .tmp 50], none⟩,
          ⟨(some 9), .mov, [.tmp 51], none⟩] false)
        (.seq (.ops [
          ⟨(some 52), .mov, [.tmp 9], none⟩,
          ⟨(some 53), .mov, [.tmp 1], none⟩,
          ⟨(some 54), .cmp .lss, [.tmp 52, .tmp 53], none⟩] false)
        (.cond (.tmp 54)
          (.ops [
            ⟨(some 55), .mov, [.tmp 0], none⟩,
            ⟨(some 56), .mov, [.tmp 7], none⟩,
            ⟨(some 57), .mov, [.tmp 9], none⟩,
            ⟨(some 58), .mov, [.tmp 1], none⟩,
            ⟨(some 59), .mov, [.tmp 2], none⟩,
            ⟨(some 60), .callg 84, [.tmp 55, .tmp 56, .tmp 57, .tmp 58, .tmp 59], none⟩] false)
          .skip)))
        (.ops [
          ⟨(some 61), .mov, [.tmp 6], none⟩,
          ⟨(some 62), .bin .mul .i64 false, [.tmp 61, .const (.int .i64 2)], none⟩,
          ⟨(some 6), .mov, [.tmp 62], none⟩] false))))))))))))⟩
theorem stabLow : lowF Try.prog { gvs := [18, 27, 43, 60] } Try.f77 = some stabIr := by kernel_rfl
set_option maxHeartbeats 1000000 in
theorem stabV : fnG Try.prog stabIr stabS := by
  intro ⟨rs, l, R⟩ hx
  obtain ⟨⟨hrg, hrs⟩, ⟨hst, hso⟩, hlen⟩ : ((∀ y ∈ l, 0 ≤ y ∧ y < rs.length) ∧ rs.length ≤ 1000000) ∧ (l.Pairwise (stb (keyR rs)) ∧ SortedOf (keyR rs) l R) ∧ l.length ≤ 1000000 := hx
  show vc _ _ _ _ ⟨argEnv 0 [.osl 0, I l.length, .fn 52 [.rp [.sl 1 (rs.map e1)]]], idxFrom 0 [.row 3 1 (l.map e1)], 1⟩
  conv => whnf
  refine ⟨Int × Int × (List (List CV)), fun xq => ⟨[(0, .osl 0), (1, I l.length), (2, .fn 52 [.rp [.sl 1 (rs.map e1)]]), (6, I 20), (7, I xq.1), (8, I xq.2.1)], [(0, .row 3 1 xq.2.2)], 1⟩, fun xq => ∃ (D E : List Int) (t : Nat), (xq.1 = D.length ∧ xq.2.1 = xq.1 + 20 ∧ D.length = t * 20) ∧ Mid (keyR rs) l (D ++ E) ∧ Blk (keyR rs) 20 D ∧ xq.2.2 = (D ++ E).map e1, fun xq => (l.length - xq.1).toNat, ⟨(_, _, _), ?_, [], ⟨⟨rfl, rfl⟩, ⟨⟨rfl, rfl⟩, ⟨⟨rfl, rfl⟩, ⟨⟨rfl, rfl⟩, ⟨⟨rfl, rfl⟩, ⟨⟨rfl, rfl⟩, trivial⟩⟩⟩⟩⟩⟩, ⟨⟨rfl, rfl, rfl⟩, trivial⟩, rfl, rfl, rfl⟩, ?_⟩
  · (try dsimp only); exact ⟨[], l, 0, ⟨rfl, rfl, rfl⟩, ⟨.refl _, hst⟩, blk_nil, rfl⟩
  rintro ⟨a, b, es⟩ hk
  obtain ⟨D, E, t, ⟨ha, hb, hD⟩, hm, hk, rfl⟩ : ∃ (D E : List Int) (t : Nat), (a = D.length ∧ b = a + 20 ∧ D.length = t * 20) ∧ Mid (keyR rs) l (D ++ E) ∧ Blk (keyR rs) 20 D ∧ es = (D ++ E).map e1 := hk
  (try dsimp only)
  have hml := hm.len
  rw [List.length_append] at hml
  by_cases hbn : b ≤ l.length
  · obtain ⟨A, S, rfl, hA, _, _⟩ := cut_at (E := E) (k := 20) (by omega)
    obtain ⟨RA, hRA⟩ := stb_ex hm.stA
    have hm2 := hm.part hRA
    have hRl := hRA.1.length_eq
    repeat' ((conv => whnf); first | (refine ⟨fun h => ?_, fun h => ?_⟩ <;> try (exfalso; first | omega | exact absurd h (by decide) | exact h rfl)) | refine ⟨[0], _, ins_g, ⟨rs, D, A, S, RA⟩, insPre hm hrg hrs hlen hRA, ⟨⟨⟨rfl, rfl, rfl⟩, trivial⟩, rfl, rfl, rfl⟩, ⟨⟨rfl, rfl⟩, (show leV (I _) (I (D.length)) from leI (by first | omega | (simp; done) | (simp; omega))), (show leV (I _) (I (D.length + A.length)) from leI (by first | omega | (simp; done) | (simp; omega))), rfl, trivial⟩, .inr ⟨rfl, ⟨cln1 _, trivial⟩, trivial⟩, ⟨⟨⟨⟨rfl, rfl⟩, by first | (simp; done) | (simp; omega)⟩, trivial⟩, trivial⟩, ?_⟩ | (refine ⟨(_, _, _), ⟨?_, by (try dsimp only); omega⟩, [], ⟨⟨rfl, rfl⟩, ⟨⟨rfl, rfl⟩, ⟨⟨rfl, rfl⟩, ⟨⟨rfl, rfl⟩, ⟨⟨rfl, rfl⟩, ⟨⟨rfl, rfl⟩, trivial⟩⟩⟩⟩⟩⟩, ⟨⟨rfl, rfl, rfl⟩, trivial⟩, rfl, rfl, rfl⟩; (try dsimp only); exact ⟨D ++ RA, S, t + 1, ⟨by rw [List.length_append]; omega, by omega, blk_len hD (by omega)⟩, by rw [List.append_assoc]; exact hm2, blk_snoc (by omega) hD hk hRA.2, by simp⟩) | refine ⟨⟨by omega, by omega⟩, ?_⟩ | fail)
  · rw [show D ++ E = D ++ (E ++ []) by simp] at hm ⊢
    obtain ⟨RE, hRE⟩ := stb_ex hm.stA
    have hm2 := hm.part hRE
    have hRl := hRE.1.length_eq
    rw [List.append_nil] at hm2
    have hk2 := blk_snoc (by omega) hD hk hRE.2
    repeat' ((conv => whnf); first | (refine ⟨fun h => ?_, fun h => ?_⟩ <;> try (exfalso; first | omega | exact absurd h (by decide) | exact h rfl)) | refine ⟨[0], _, ins_g, ⟨rs, D, E, [], RE⟩, insPre hm hrg hrs hlen hRE, ⟨⟨⟨rfl, rfl, rfl⟩, trivial⟩, rfl, rfl, rfl⟩, ⟨⟨rfl, rfl⟩, (show leV (I _) (I (D.length)) from leI (by first | omega | (simp; done) | (simp; omega))), (show leV (I _) (I (D.length + E.length)) from leI (by first | omega | (simp; done) | (simp; omega))), rfl, trivial⟩, .inr ⟨rfl, ⟨cln1 _, trivial⟩, trivial⟩, ⟨⟨⟨⟨rfl, rfl⟩, by first | (simp; done) | (simp; omega)⟩, trivial⟩, trivial⟩, ?_⟩ | fail | fail)
    refine ⟨Int × (List (List CV)), fun xq => ⟨[(0, .osl 0), (1, I l.length), (2, .fn 52 [.rp [.sl 1 (rs.map e1)]]), (6, I xq.1)], [(0, .row 3 1 xq.2)], 1⟩, fun xq => ∃ (k : Nat) (cur : List Int), (xq.1 = k ∧ 20 ≤ k ∧ k ≤ 2000000) ∧ Mid (keyR rs) l cur ∧ Blk (keyR rs) k cur ∧ xq.2 = cur.map e1, fun xq => (l.length - xq.1).toNat, ⟨(20, _), ?_, [], ⟨⟨rfl, rfl⟩, ⟨⟨rfl, rfl⟩, ⟨⟨rfl, rfl⟩, ⟨⟨rfl, rfl⟩, trivial⟩⟩⟩⟩, ⟨⟨rfl, rfl, rfl⟩, trivial⟩, rfl, rfl, rfl⟩, ?_⟩
    · (try dsimp only); exact ⟨20, D ++ RE, ⟨rfl, by omega, by omega⟩, hm2, hk2, by simp⟩
    rintro ⟨kk, es⟩ hk
    obtain ⟨k, cur, ⟨rfl, hk0, hk9⟩, hm3, hk3, rfl⟩ : ∃ (k : Nat) (cur : List Int), (kk = k ∧ 20 ≤ k ∧ k ≤ 2000000) ∧ Mid (keyR rs) l cur ∧ Blk (keyR rs) k cur ∧ es = cur.map e1 := hk
    (try dsimp only)
    clear hk2 hm2 hm hk hD ha hb hml hbn hRl hRE
    by_cases hkn : k < l.length
    · repeat' ((conv => whnf); first | (refine ⟨fun h => ?_, fun h => ?_⟩ <;> try (exfalso; first | omega | exact absurd h (by decide) | exact h rfl)) | refine ⟨⟨by omega, by omega⟩, ?_⟩ | fail | fail)
      refine ⟨Int × Int × (List (List CV)), fun xq => ⟨[(0, .osl 0), (1, I l.length), (2, .fn 52 [.rp [.sl 1 (rs.map e1)]]), (6, I k), (7, I xq.1), (8, I xq.2.1)], [(0, .row 3 1 xq.2.2)], 1⟩, fun xq => ∃ (D E : List Int) (t : Nat), (xq.1 = D.length ∧ xq.2.1 = xq.1 + 2 * k ∧ D.length = t * (2 * k)) ∧ Mid (keyR rs) l (D ++ E) ∧ Blk (keyR rs) (2 * k) D ∧ Blk (keyR rs) k E ∧ xq.2.2 = (D ++ E).map e1, fun xq => (l.length - xq.1).toNat, ⟨(_, _, _), ?_, [], ⟨⟨rfl, rfl⟩, ⟨⟨rfl, rfl⟩, ⟨⟨rfl, rfl⟩, ⟨⟨rfl, rfl⟩, ⟨⟨rfl, rfl⟩, ⟨⟨rfl, rfl⟩, trivial⟩⟩⟩⟩⟩⟩, ⟨⟨rfl, rfl, rfl⟩, trivial⟩, rfl, rfl, rfl⟩, ?_⟩
      · (try dsimp only); exact ⟨[], cur, 0, ⟨rfl, by omega, by simp⟩, hm3, blk_nil, hk3, rfl⟩
      rintro ⟨a, b, es⟩ hk
      obtain ⟨D, E, t, ⟨ha, hb, hD⟩, hm, hk, hkE, rfl⟩ : ∃ (D E : List Int) (t : Nat), (a = D.length ∧ b = a + 2 * k ∧ D.length = t * (2 * k)) ∧ Mid (keyR rs) l (D ++ E) ∧ Blk (keyR rs) (2 * k) D ∧ Blk (keyR rs) k E ∧ es = (D ++ E).map e1 := hk
      (try dsimp only)
      have hml := hm.len
      rw [List.length_append] at hml
      by_cases hbn : b ≤ l.length
      · obtain ⟨A, E2, rfl, hA, hA1, hA2⟩ := cut_at (E := E) (k := k) (by omega)
        rw [List.length_append] at hml
        obtain ⟨B, S, rfl, hB, hB1, hB2⟩ := cut_at (E := E2) (k := k) (by omega)
        have hAs := blk_take hkE
        have hk4 := blk_drop (by omega) hkE
        rw [hA1] at hAs
        rw [hA2] at hk4
        have hBs := blk_take hk4
        have hkS := blk_drop (by omega) hk4
        rw [hB1] at hBs
        rw [hB2] at hkS
        rw [← List.append_assoc A] at hm
        obtain ⟨RA, hRA⟩ := stb_ex hm.stA
        have hm2 := hm.part hRA
        have hRl := hRA.1.length_eq
        rw [List.length_append] at hRl
        repeat' ((conv => whnf); first | (refine ⟨fun h => ?_, fun h => ?_⟩ <;> try (exfalso; first | omega | exact absurd h (by decide) | exact h rfl)) | refine ⟨[0], _, (sym_g _), ⟨rs, D, A, B, S, RA⟩, symPre hm hrg hrs hlen hRA hAs hBs (by omega) (by omega), ⟨⟨⟨rfl, rfl, rfl⟩, trivial⟩, rfl, rfl, rfl⟩, ⟨⟨rfl, rfl⟩, (show leV (I _) (I (D.length)) from leI (by first | omega | (simp; done) | (simp; omega))), (show leV (I _) (I (D.length + A.length)) from leI (by first | omega | (simp; done) | (simp; omega))), (show leV (I _) (I (D.length + A.length + B.length)) from leI (by first | omega | (simp; done) | (simp; omega))), rfl, trivial⟩, .inr ⟨rfl, ⟨cln1 _, trivial⟩, trivial⟩, ⟨⟨⟨⟨rfl, rfl⟩, by first | (simp; done) | (simp; omega)⟩, trivial⟩, trivial⟩, ?_⟩ | (refine ⟨(_, _, _), ⟨?_, by (try dsimp only); omega⟩, [], ⟨⟨rfl, rfl⟩, ⟨⟨rfl, rfl⟩, ⟨⟨rfl, rfl⟩, ⟨⟨rfl, rfl⟩, ⟨⟨rfl, rfl⟩, ⟨⟨rfl, rfl⟩, trivial⟩⟩⟩⟩⟩⟩, ⟨⟨rfl, rfl, rfl⟩, trivial⟩, rfl, rfl, rfl⟩; (try dsimp only); exact ⟨D ++ RA, S, t + 1, ⟨by rw [List.length_append]; omega, by omega, blk_len hD (by omega)⟩, by rw [List.append_assoc]; exact hm2, blk_snoc (by omega) hD hk hRA.2, hkS, by simp⟩) | refine ⟨⟨by omega, by omega⟩, ?_⟩ | fail)
      · by_cases hmn : a + k < l.length
        · obtain ⟨A, B, rfl, hA, hA1, hA2⟩ := cut_at (E := E) (k := k) (by omega)
          rw [List.length_append] at hml
          have hAs := blk_take hkE
          have hk4 := blk_drop (by omega) hkE
          rw [hA1] at hAs
          rw [hA2] at hk4
          have hBs := blk_one hk4 (by omega)
          rw [show D ++ (A ++ B) = D ++ ((A ++ B) ++ []) by simp] at hm
          obtain ⟨RA, hRA⟩ := stb_ex hm.stA
          have hm2 := hm.part hRA
          have hRl := hRA.1.length_eq
          rw [List.length_append] at hRl
          rw [List.append_nil] at hm2
          have hb5 := blk_snoc (by omega) hD hk hRA.2
          repeat' ((conv => whnf); first | (refine ⟨fun h => ?_, fun h => ?_⟩ <;> try (exfalso; first | omega | exact absurd h (by decide) | exact h rfl)) | refine ⟨[0], _, (sym_g _), ⟨rs, D, A, B, [], RA⟩, symPre hm hrg hrs hlen hRA hAs hBs (by omega) (by omega), ⟨⟨⟨rowE (by simp), rfl, rfl⟩, trivial⟩, rfl, rfl, rfl⟩, ⟨⟨rfl, rfl⟩, (show leV (I _) (I (D.length)) from leI (by first | omega | (simp; done) | (simp; omega))), (show leV (I _) (I (D.length + A.length)) from leI (by first | omega | (simp; done) | (simp; omega))), (show leV (I _) (I (D.length + A.length + B.length)) from leI (by first | omega | (simp; done) | (simp; omega))), rfl, trivial⟩, .inr ⟨rfl, ⟨cln1 _, trivial⟩, trivial⟩, ⟨⟨⟨⟨rfl, rfl⟩, by first | (simp; done) | (simp; omega)⟩, trivial⟩, trivial⟩, ?_⟩ | (refine ⟨(_, _), ⟨?_, by (try dsimp only); omega⟩, [], ⟨⟨rfl, rfl⟩, ⟨⟨rfl, rfl⟩, ⟨⟨rfl, rfl⟩, ⟨⟨rfl, rfl⟩, trivial⟩⟩⟩⟩, ⟨⟨rfl, rfl, rfl⟩, trivial⟩, rfl, rfl, rfl⟩; (try dsimp only); exact ⟨2 * k, D ++ RA, ⟨by omega, by omega, by omega⟩, hm2, hb5, by simp⟩) | refine ⟨⟨by omega, by omega⟩, ?_⟩ | fail)
        · have hEs := blk_one hkE (by omega)
          have hb5 := blk_snoc (by omega) hD hk hEs
          repeat' ((conv => whnf); first | (refine ⟨fun h => ?_, fun h => ?_⟩ <;> try (exfalso; first | omega | exact absurd h (by decide) | exact h rfl)) | (refine ⟨(_, _), ⟨?_, by (try dsimp only); omega⟩, [], ⟨⟨rfl, rfl⟩, ⟨⟨rfl, rfl⟩, ⟨⟨rfl, rfl⟩, ⟨⟨rfl, rfl⟩, trivial⟩⟩⟩⟩, ⟨⟨rfl, rfl, rfl⟩, trivial⟩, rfl, rfl, rfl⟩; (try dsimp only); exact ⟨2 * k, D ++ E, ⟨by omega, by omega, by omega⟩, hm, hb5, rfl⟩) | refine ⟨⟨by omega, by omega⟩, ?_⟩ | fail)
    · have hfin := sorted_uniq ⟨hm3.perm, blk_one hk3 (by have := hm3.len; omega)⟩ hso
      subst hfin
      repeat' ((conv => whnf); first | (refine ⟨fun h => ?_, fun h => ?_⟩ <;> try (exfalso; first | omega | exact absurd h (by decide) | exact h rfl)) | fail | fail)
      exact ⟨[], rfl, rfl, ⟨⟨rfl, rfl⟩, trivial⟩, trivial⟩
theorem stab_g : HoldsG Try.prog 77 stabS := holdsG_of mix Try.func77 stabLow (fun _ => rfl) stabV

/-! slices.SortStableFunc[[]int,int] -/
def sortIr : IFn := ⟨9, [],
  (.ops [
    ⟨(some 4), .mov, [.tmp 0], none⟩,
    ⟨(some 5), .mov, [.tmp 0], none⟩,
    ⟨(some 6), .len, [.tmp 5], none⟩,
    ⟨(some 7), .mov, [.tmp 1], none⟩,
    ⟨(some 8), .callg 77, [.tmp 4, .tmp 6, .tmp 7], none⟩] false)⟩
theorem sortLow : lowF Try.prog { gvs := [8] } Try.f51 = some sortIr := by kernel_rfl
theorem sortV : fnG Try.prog sortIr sortS := by
  intro ⟨rs, l, R⟩ hx
  show vc _ _ _ _ ⟨argEnv 0 [.osl 0, .fn 52 [.rp [.sl 1 (rs.map e1)]]], idxFrom 0 [.row 3 1 (l.map e1)], 1⟩
  conv => whnf
  refine ⟨[0], _, stab_g, ⟨rs, l, R⟩, hx, ⟨⟨⟨rfl, rfl, rfl⟩, trivial⟩, rfl, rfl, rfl⟩, ⟨⟨rfl, rfl⟩, (show leV (I _) (I l.length) from leI (by rw [List.length_map])), rfl, trivial⟩, .inr ⟨rfl, ⟨cln1 _, trivial⟩, trivial⟩, ⟨⟨⟨⟨rfl, rfl⟩, by (show (R.map e1).length = (l.map e1).length; rw [List.length_map, List.length_map]; exact hx.2.1.2.1.length_eq)⟩, trivial⟩, trivial⟩, ?_⟩
  conv => whnf
  exact ⟨[], rfl, rfl, ⟨⟨rfl, rfl⟩, trivial⟩, trivial⟩
theorem sort_g : HoldsG Try.prog 51 sortS := holdsG_of mix Try.func51 sortLow (fun _ => rfl) sortV

end Go.Proofs.Ytbglmocgijlomaa

/- Sums within bounds: plain. No program in sight. -/
namespace Go.Proofs.Ytbglmocgijlomaa
open Go.RowKit

structure Share where
  o : Int
  a : Int
  deriving DecidableEq
/-- s + n, if it is from -2^40 to 2^40. -/
def plusF (s n : Int) : Option Int := if 1099511627776 - s < n ∨ n < -1099511627776 - s then none else some (s + n)
def runO : Int → List Int → Option Int
  | s, [] => some s
  | s, x :: r => match plusF s x with
    | none => none
    | some t => runO t r
def optT : Option Int → SV
  | some v => .tup [.c (.int .i64 v), .c (.bool true)]
  | none => .tup [.c (.int .i64 0), .c (.bool false)]
/-- A sum and an error number. -/
def totT : Option Int → SV
  | some v => .tup [.c (.int .i64 v), .c (.int .i64 0)]
  | none => .tup [.c (.int .i64 0), .c (.int .i64 12)]
theorem plusF_bnd {s n t : Int} (h : plusF s n = some t) : -1099511627776 ≤ t ∧ t ≤ 1099511627776 := by
  unfold plusF at h
  split at h
  · cases h
  · cases h; omega
theorem runO_step {l : List Int} {k : Nat} {x s : Int} (h : l[k]? = some x) : runO s (l.drop k) = match plusF s x with
    | none => none
    | some t => runO t (l.drop (k + 1)) := by rw [drop_of h, runO]
theorem runO_end {l : List Int} {k : Nat} (h : ¬ k < l.length) (s : Int) : runO s (l.drop k) = some s := by rw [drop_end h]; rfl
end Go.Proofs.Ytbglmocgijlomaa

/- Split: sums. -/
namespace Go.Proofs.Ytbglmocgijlomaa
open Go.RowKit
abbrev encS (r : Share) : List CV := [.int .i64 r.o, .int .i64 r.a]
abbrev aS (r : Share) : SV := .agg ((encS r).map .c)

/-! skiarea/split.plus -/
def plusIr : IFn := ⟨19, [.tmp 4, .tmp 5],
  (.seq (.ops [
    ⟨(some 4), .mov, [.const (.int .i64 0)], none⟩,
    ⟨(some 5), .mov, [.const (.bool false)], none⟩] false)
  (.seq (.seq (.ops [
    ⟨(some 6), .mov, [.tmp 1], none⟩,
    ⟨(some 7), .mov, [.tmp 0], none⟩,
    ⟨(some 8), .bin .sub .i64 false, [.const (.int .i64 1099511627776), .tmp 7], none⟩,
    ⟨(some 9), .cmp .gtr, [.tmp 6, .tmp 8], none⟩,
    ⟨(some 10), .mov, [.tmp 9], none⟩,
    ⟨(some 11), .mov, [.tmp 1], (some (10, false))⟩,
    ⟨(some 12), .mov, [.tmp 0], (some (10, false))⟩,
    ⟨(some 13), .bin .sub .i64 false, [.const (.int .i64 (-1099511627776)), .tmp 12], (some (10, false))⟩,
    ⟨(some 14), .cmp .lss, [.tmp 11, .tmp 13], (some (10, false))⟩,
    ⟨(some 15), .pick, [.tmp 10, .const (.bool true), .tmp 14], none⟩] false)
  (.cond (.tmp 15)
    (.seq (.ops [
      ⟨(some 4), .mov, [.const (.int .i64 0)], none⟩,
      ⟨(some 5), .mov, [.const (.bool false)], none⟩] false)
    .ret)
    .skip))
  (.seq (.ops [
    ⟨(some 16), .mov, [.tmp 0], none⟩,
    ⟨(some 17), .mov, [.tmp 1], none⟩,
    ⟨(some 18), .bin .add .i64 false, [.tmp 16, .tmp 17], none⟩,
    ⟨(some 4), .mov, [.tmp 18], none⟩,
    ⟨(some 5), .mov, [.const (.bool true)], none⟩] false)
  .ret)))⟩
theorem plusLow : lowF Try.prog {} Try.f54 = some plusIr := by kernel_rfl
def plusS : Spec := spec (Int × Int) (fun p => [I p.1, I p.2]) (fun p => -1099511627776 ≤ p.1 ∧ p.1 ≤ 1099511627776) (fun p => optT (plusF p.1 p.2))
theorem plusV : fnV Try.prog plusIr plusS := by
  intro ⟨(s : Int), (n : Int)⟩ hx
  obtain ⟨h1, h2⟩ : -1099511627776 ≤ s ∧ s ≤ 1099511627776 := hx
  show vc _ _ _ _ ⟨argEnv 0 [I s, I n], [], 0⟩
  by_cases h : 1099511627776 - s < n ∨ n < -1099511627776 - s
  · have hf : plusF s n = none := if_pos h
    repeat' ((conv => whnf); first | (refine ⟨fun h => ?_, fun h => ?_⟩ <;> try (exfalso; first | omega | exact absurd h (by decide) | exact h rfl)) | refine ⟨⟨by omega, by omega⟩, ?_⟩ | fail | fail)
    all_goals (refine ⟨[], rfl, trivial, ?_⟩; show leR _ (optT (plusF s n)); rw [hf]; exact ⟨rfl, rfl, trivial⟩)
  · have hf : plusF s n = some (s + n) := if_neg h
    repeat' ((conv => whnf); first | (refine ⟨fun h => ?_, fun h => ?_⟩ <;> try (exfalso; first | omega | exact absurd h (by decide) | exact h rfl)) | refine ⟨⟨by omega, by omega⟩, ?_⟩ | fail | fail)
    all_goals (refine ⟨[], rfl, trivial, ?_⟩; show leR _ (optT (plusF s n)); rw [hf]; exact ⟨rfl, rfl, trivial⟩)
theorem plus_h : Holds Try.prog 54 plusS := holds_of mix Try.func54 plusLow (fun _ => rfl) plusV

/-! skiarea/skiarearef34.more -/
def moreIr : IFn := ⟨19, [.tmp 4, .tmp 5],
  (.seq (.ops [
    ⟨(some 4), .mov, [.const (.int .i64 0)], none⟩,
    ⟨(some 5), .mov, [.const (.bool false)], none⟩] false)
  (.seq (.seq (.ops [
    ⟨(some 6), .mov, [.tmp 1], none⟩,
    ⟨(some 7), .mov, [.tmp 0], none⟩,
    ⟨(some 8), .bin .sub .i64 false, [.const (.int .i64 1099511627776), .tmp 7], none⟩,
    ⟨(some 9), .cmp .gtr, [.tmp 6, .tmp 8], none⟩,
    ⟨(some 10), .mov, [.tmp 9], none⟩,
    ⟨(some 11), .mov, [.tmp 1], (some (10, false))⟩,
    ⟨(some 12), .mov, [.tmp 0], (some (10, false))⟩,
    ⟨(some 13), .bin .sub .i64 false, [.const (.int .i64 (-1099511627776)), .tmp 12], (some (10, false))⟩,
    ⟨(some 14), .cmp .lss, [.tmp 11, .tmp 13], (some (10, false))⟩,
    ⟨(some 15), .pick, [.tmp 10, .const (.bool true), .tmp 14], none⟩] false)
  (.cond (.tmp 15)
    (.seq (.ops [
      ⟨(some 4), .mov, [.const (.int .i64 0)], none⟩,
      ⟨(some 5), .mov, [.const (.bool false)], none⟩] false)
    .ret)
    .skip))
  (.seq (.ops [
    ⟨(some 16), .mov, [.tmp 0], none⟩,
    ⟨(some 17), .mov, [.tmp 1], none⟩,
    ⟨(some 18), .bin .add .i64 false, [.tmp 16, .tmp 17], none⟩,
    ⟨(some 4), .mov, [.tmp 18], none⟩,
    ⟨(some 5), .mov, [.const (.bool true)], none⟩] false)
  .ret)))⟩
theorem moreLow : lowF Try.prog {} Try.f59 = some moreIr := by kernel_rfl
def moreS : Spec := spec (Int × Int) (fun p => [I p.1, I p.2]) (fun p => -1099511627776 ≤ p.1 ∧ p.1 ≤ 1099511627776) (fun p => optT (plusF p.1 p.2))
theorem moreV : fnV Try.prog moreIr moreS := by
  intro ⟨(s : Int), (n : Int)⟩ hx
  obtain ⟨h1, h2⟩ : -1099511627776 ≤ s ∧ s ≤ 1099511627776 := hx
  show vc _ _ _ _ ⟨argEnv 0 [I s, I n], [], 0⟩
  by_cases h : 1099511627776 - s < n ∨ n < -1099511627776 - s
  · have hf : plusF s n = none := if_pos h
    repeat' ((conv => whnf); first | (refine ⟨fun h => ?_, fun h => ?_⟩ <;> try (exfalso; first | omega | exact absurd h (by decide) | exact h rfl)) | refine ⟨⟨by omega, by omega⟩, ?_⟩ | fail | fail)
    all_goals (refine ⟨[], rfl, trivial, ?_⟩; show leR _ (optT (plusF s n)); rw [hf]; exact ⟨rfl, rfl, trivial⟩)
  · have hf : plusF s n = some (s + n) := if_neg h
    repeat' ((conv => whnf); first | (refine ⟨fun h => ?_, fun h => ?_⟩ <;> try (exfalso; first | omega | exact absurd h (by decide) | exact h rfl)) | refine ⟨⟨by omega, by omega⟩, ?_⟩ | fail | fail)
    all_goals (refine ⟨[], rfl, trivial, ?_⟩; show leR _ (optT (plusF s n)); rw [hf]; exact ⟨rfl, rfl, trivial⟩)
theorem more_h : Holds Try.prog 59 moreS := holds_of mix Try.func59 moreLow (fun _ => rfl) moreV

/-! skiarea/split.check$1 -/
def idwIr : IFn := ⟨4, [.tmp 2],
  (.seq (.ops [
    ⟨(some 2), .mov, [.const (.int .i64 0)], none⟩] false)
  (.seq (.ops [
    ⟨(some 3), .mov, [.tmp 0], none⟩,
    ⟨(some 2), .mov, [.tmp 3], none⟩] false)
  .ret))⟩
theorem idwLow : lowF Try.prog {} Try.f61 = some idwIr := by kernel_rfl
def idwS : Spec := spec Int (fun n => [I n]) (fun _ => True) (fun n => I n)
theorem idwV : fnV Try.prog idwIr idwS := by
  intro (n : Int) hx
  show vc _ _ _ _ ⟨argEnv 0 [I n], [], 0⟩
  conv => whnf
  exact ⟨[], rfl, trivial, rfl⟩
theorem idw_h : Holds Try.prog 61 idwS := holds_of mix Try.func61 idwLow (fun _ => rfl) idwV
theorem cw : callable Try.prog 61 = true := by kernel_rfl

/-! skiarea/split.running[int] -/
def runIIr : IFn := ⟨28, [.tmp 4, .tmp 5],
  (.seq (.ops [
    ⟨(some 4), .mov, [.const (.int .i64 0)], none⟩,
    ⟨(some 5), .mov, [.const (.bool false)], none⟩] false)
  (.seq (.ops [
    ⟨(some 6), .mov, [.const (.int .i64 0)], none⟩,
    ⟨(some 7), .mov, [.const (.bool true)], none⟩] false)
  (.seq (.seq (.ops [
    ⟨(some 10), .mov, [.tmp 0], none⟩,
    ⟨(some 11), .len, [.tmp 10], none⟩,
    ⟨(some 12), .mov, [.const (.int .i64 0)], none⟩] false)
  (.block 0
    (.loop
      (.seq (.ops [
        ⟨(some 13), .cmp .lss, [.tmp 12, .tmp 11], none⟩] false)
      (.seq (.cond (.tmp 13)
        .skip
        (.exit 0))
      (.seq (.block 1
        (.seq (.ops [
          ⟨(some 14), .idx 1, [.tmp 10, .tmp 12], none⟩,
          ⟨(some 15), .load 1 false, [.tmp 14], none⟩,
          ⟨(some 9), .mov, [.tmp 15], none⟩] false)
        (.seq (.ops [
          ⟨(some 17), .mov, [.tmp 6], none⟩,
          ⟨(some 18), .mov, [.tmp 1], none⟩,
          ⟨(some 19), .mov, [.tmp 9], none⟩,
          ⟨(some 20), .callv, [.tmp 18, .tmp 19], none⟩,
          ⟨(some 21), .call 54, [.tmp 17, .tmp 20], none⟩,
          ⟨(some 16), .mov, [.tmp 21], none⟩,
          ⟨(some 22), .extract 0, [.tmp 16], none⟩,
          ⟨(some 23), .extract 1, [.tmp 16], none⟩,
          ⟨(some 6), .mov, [.tmp 22], none⟩,
          ⟨(some 7), .mov, [.tmp 23], none⟩] false)
        (.seq (.ops [
          ⟨(some 24), .mov, [.tmp 7], none⟩,
          ⟨(some 25), .not, [.tmp 24], none⟩] false)
        (.cond (.tmp 25)
          (.seq (.ops [
            ⟨(some 4), .mov, [.const (.int .i64 0)], none⟩,
            ⟨(some 5), .mov, [.const (.bool false)], none⟩] false)
          .ret)
          .skip)))))
      (.ops [
        ⟨(some 26), .bin .add .i64 false, [.tmp 12, .const (.int .i64 1)], none⟩,
        ⟨(some 12), .mov, [.tmp 26], none⟩] false)))))))
  (.seq (.ops [
    ⟨(some 27), .mov, [.tmp 6], none⟩,
    ⟨(some 4), .mov, [.tmp 27], none⟩,
    ⟨(some 5), .mov, [.const (.bool true)], none⟩] false)
  .ret))))⟩
theorem runILow : lowF Try.prog {} Try.f60 = some runIIr := by kernel_rfl
def runIS : Spec := spec (List Int) (fun l => [L 1 (l.map e1), .fn 61 []]) (fun l => l.length ≤ 1000000) (fun l => optT (runO 0 (l.map fun x : Int => x)))
theorem runIV : fnV Try.prog runIIr runIS := by
  intro (l : List Int) hx
  replace hx : l.length ≤ 1000000 := hx
  show vc _ _ _ _ ⟨argEnv 0 [L 1 (l.map e1), .fn 61 []], [], 0⟩
  have hl : (l.map e1).length = l.length := List.length_map ..
  conv => whnf
  refine ⟨Nat × Int, fun xq => ⟨[(0, L 1 (l.map e1)), (1, .fn 61 []), (6, I xq.2), (10, L 1 (l.map e1)), (11, I (l.map e1).length), (12, I xq.1)], [], 0⟩, fun xq => xq.1 ≤ l.length ∧ (-1099511627776 ≤ xq.2 ∧ xq.2 ≤ 1099511627776) ∧ runO xq.2 ((l.map fun x : Int => x).drop xq.1) = runO 0 (l.map fun x : Int => x), fun xq => l.length - xq.1, ⟨(0, 0), ?_, [], ⟨⟨rfl, rfl⟩, ⟨⟨rfl, rfl⟩, ⟨⟨rfl, rfl⟩, ⟨⟨rfl, rfl⟩, ⟨⟨rfl, rfl⟩, ⟨⟨rfl, rfl⟩, trivial⟩⟩⟩⟩⟩⟩, trivial, rfl, rfl, rfl⟩, ?_⟩
  · (try dsimp only); exact ⟨Nat.zero_le _, by omega, rfl⟩
  rintro ⟨k, s⟩ hk
  obtain ⟨hk, ⟨s1, s2⟩, hg⟩ : k ≤ l.length ∧ (-1099511627776 ≤ s ∧ s ≤ 1099511627776) ∧ runO s ((l.map fun x : Int => x).drop k) = runO 0 (l.map fun x : Int => x) := hk
  (try dsimp only)
  by_cases hkl : k < l.length
  · obtain ⟨x, hx⟩ := getElem_some hkl
    have hxv : (l.map fun x : Int => x)[k]? = some x := by rw [List.getElem?_map, hx]; rfl
    rw [runO_step hxv] at hg
    cases hp : plusF s x with
    | none =>
      rw [hp] at hg
      repeat' ((conv => whnf); first | (refine ⟨fun h => ?_, fun h => ?_⟩ <;> try (exfalso; first | omega | exact absurd h (by decide) | exact h rfl)) | (refine ⟨by omega, fun r hrr => ?_⟩; obtain rfl := get_row hrr hx) | (refine ⟨cw, _, idw_h, x, trivial, leVs_of_eq rfl, .inr rfl, rfl, ?_⟩; show norm (I x) _) | (refine ⟨_, plus_h, (s, x), ⟨s1, s2⟩, leVs_of_eq rfl, .inl rfl, rfl, ?_⟩; show norm (optT (plusF s x)) _; rw [hp]) | fail | fail)
      all_goals (refine ⟨[], rfl, trivial, ?_⟩; show leR _ (optT (runO 0 (l.map fun x : Int => x))); rw [← hg]; exact ⟨rfl, rfl, trivial⟩)
    | some t =>
      rw [hp] at hg
      have hb := plusF_bnd hp
      repeat' ((conv => whnf); first | (refine ⟨(k + 1, _), ⟨?_, by (try dsimp only); omega⟩, [], ⟨⟨rfl, rfl⟩, ⟨⟨rfl, rfl⟩, ⟨⟨rfl, rfl⟩, ⟨⟨rfl, rfl⟩, ⟨⟨rfl, rfl⟩, ⟨⟨rfl, rfl⟩, trivial⟩⟩⟩⟩⟩⟩, trivial, rfl, rfl, rfl⟩; (try dsimp only); exact ⟨by omega, hb, hg⟩) | (refine ⟨fun h => ?_, fun h => ?_⟩ <;> try (exfalso; first | omega | exact absurd h (by decide) | exact h rfl)) | (refine ⟨by omega, fun r hrr => ?_⟩; obtain rfl := get_row hrr hx) | (refine ⟨cw, _, idw_h, x, trivial, leVs_of_eq rfl, .inr rfl, rfl, ?_⟩; show norm (I x) _) | (refine ⟨_, plus_h, (s, x), ⟨s1, s2⟩, leVs_of_eq rfl, .inl rfl, rfl, ?_⟩; show norm (optT (plusF s x)) _; rw [hp]) | refine ⟨⟨by omega, by omega⟩, ?_⟩ | fail)
  · rw [runO_end (by rw [List.length_map]; exact hkl)] at hg
    repeat' ((conv => whnf); first | (refine ⟨fun h => ?_, fun h => ?_⟩ <;> try (exfalso; first | omega | exact absurd h (by decide) | exact h rfl)) | fail | fail)
    all_goals (refine ⟨[], rfl, trivial, ?_⟩; show leR _ (optT (runO 0 (l.map fun x : Int => x))); rw [← hg]; exact ⟨rfl, rfl, trivial⟩)
theorem runI_h : Holds Try.prog 60 runIS := holds_of mix Try.func60 runILow (fun _ => rfl) runIV

end Go.Proofs.Ytbglmocgijlomaa

/- Products and quotients: plain. No program in sight. -/
namespace Go.Proofs.Ytbglmocgijlomaa

theorem div_step {A s q r : Int} (hs : 0 < s) (h : A = s * q + r) : A / s = q + r / s ∧ A % s = r % s := by
  subst h
  rw [Int.add_comm]
  exact ⟨by rw [Int.add_mul_ediv_left _ _ (by omega)]; omega, by rw [Int.add_mul_emod_self_left]⟩
theorem half_pow (w : Int) (j : Nat) : w / 2 ^ (j + 1) = w / 2 ^ j / 2 := by
  rw [Int.pow_succ, Int.ediv_ediv_of_nonneg (Int.le_of_lt (Int.pow_pos (by omega)))]
/-- One bit more of a product's quotient. -/
theorem quo_bit {a w s : Int} (hs : 0 < s) (j : Nat) {b : Int} (hb : w / 2 ^ j % 2 = b) :
    a * (w / 2 ^ j) / s = (2 * (a * (w / 2 ^ (j + 1)) / s) + b * (a / s)) + (2 * (a * (w / 2 ^ (j + 1)) % s) + b * (a % s)) / s ∧ a * (w / 2 ^ j) % s = (2 * (a * (w / 2 ^ (j + 1)) % s) + b * (a % s)) % s := by
  refine div_step hs ?_
  rw [half_pow]
  generalize w / 2 ^ j = v at *
  have h1 : v = 2 * (v / 2) + b := by omega
  have h2 := Int.mul_ediv_add_emod (a * (v / 2)) s
  have h3 := Int.mul_ediv_add_emod a s
  generalize a * (v / 2) / s = q at *
  generalize a * (v / 2) % s = r at *
  generalize a / s = x at *
  generalize a % s = y at *
  have e : a * v = 2 * (a * (v / 2)) + b * a := by
    conv => lhs; rw [h1]
    rw [Int.mul_add, Int.mul_left_comm, Int.mul_comm a b]
  have e2 : b * a = s * (b * x) + b * y := by rw [← h3, Int.mul_add, Int.mul_left_comm]
  rw [e, e2, Int.mul_add s, Int.mul_left_comm s 2]
  omega
theorem wrap_small {n : Int} (h0 : 0 ≤ n) (h1 : n < 9223372036854775808) : IntKind.wrap .i64 n = n := by
  show (if IntKind.signed .i64 && decide (2 ^ (IntKind.bits .i64 - 1) ≤ n % 2 ^ IntKind.bits .i64) then _ else _) = n
  have e : (2 : Int) ^ IntKind.bits .i64 = 18446744073709551616 := by decide
  have e2 : (2 : Int) ^ (IntKind.bits .i64 - 1) = 9223372036854775808 := by decide
  rw [e, e2]
  have : n % 18446744073709551616 = n := by omega
  rw [this]
  simp only [Bool.and_eq_true, decide_eq_true_eq]
  rw [if_neg (by omega)]
theorem low1 (n : Int) : IntKind.wrap .i64 ((BitVec.ofInt (IntKind.bits .i64) n &&& BitVec.ofInt (IntKind.bits .i64) 1).toNat) = n % 2 := by
  rw [BitVec.toNat_and]
  have h1 : (BitVec.ofInt (IntKind.bits .i64) 1).toNat = 2 ^ 1 - 1 := by decide
  have h2 : (BitVec.ofInt (IntKind.bits .i64) n).toNat = (n % 18446744073709551616).toNat := by
    rw [BitVec.toNat_ofInt]; rfl
  rw [h1, Nat.and_two_pow_sub_one_eq_mod, h2]
  have h3 : (((n % 18446744073709551616).toNat % 2 ^ 1 : Nat) : Int) = n % 2 := by omega
  rw [h3]
  exact wrap_small (by omega) (by omega)
theorem shrj (n : Int) {j : Nat} (h : j < 64) : n.fdiv (2 ^ Nat.min ((j : Int).toNat) (IntKind.bits .i64)) = n / 2 ^ j := by
  rw [Int.fdiv_eq_ediv_of_nonneg _ (Int.le_of_lt (Int.pow_pos (by omega)))]
  have : Nat.min ((j : Int).toNat) (IntKind.bits .i64) = j := by
    rw [Int.toNat_natCast]; exact Nat.min_eq_left (by show j ≤ 64; omega)
  rw [this]
end Go.Proofs.Ytbglmocgijlomaa

/- Split: the reference's Quotient, and equality. -/
namespace Go.Proofs.Ytbglmocgijlomaa
open Go.RowKit
theorem share_ext {x y : Share} (h : x.o = y.o ∧ x.a = y.a ∧ True) : x = y := by
  obtain ⟨a0, a1, _⟩ := h
  cases x; cases y; simp_all
theorem share_nn {x y : Share} (h : ¬ ¬ (x.o = y.o ∧ x.a = y.a ∧ True)) : x = y := share_ext (Decidable.not_not.1 h)
theorem share_ne {x y : Share} (h : ¬ (x.o = y.o ∧ x.a = y.a ∧ True)) : x ≠ y := fun e => h (by subst e; exact ⟨rfl, rfl, trivial⟩)

/-! skiarea/skiarearef34.SameShares -/
def sameSIr : IFn := ⟨26, [.tmp 4],
  (.seq (.ops [
    ⟨(some 4), .mov, [.const (.bool false)], none⟩] false)
  (.seq (.seq (.ops [
    ⟨(some 6), .mov, [.tmp 0], none⟩,
    ⟨(some 7), .len, [.tmp 6], none⟩,
    ⟨(some 8), .mov, [.tmp 1], none⟩,
    ⟨(some 9), .len, [.tmp 8], none⟩,
    ⟨(some 10), .cmp .neq, [.tmp 7, .tmp 9], none⟩] false)
  (.cond (.tmp 10)
    (.seq (.ops [
      ⟨(some 4), .mov, [.const (.bool false)], none⟩] false)
    .ret)
    .skip))
  (.seq (.seq (.ops [
    ⟨(some 5), .mov, [.const (.int .i64 0)], none⟩] false)
  (.block 0
    (.loop
      (.seq (.seq (.ops [
        ⟨(some 11), .mov, [.tmp 5], none⟩,
        ⟨(some 12), .mov, [.tmp 0], none⟩,
        ⟨(some 13), .len, [.tmp 12], none⟩,
        ⟨(some 14), .cmp .lss, [.tmp 11, .tmp 13], none⟩] false)
      (.cond (.tmp 14)
        .skip
        (.exit 0)))
      (.seq (.block 1
        (.seq (.ops [
          ⟨(some 17), .mov, [.tmp 0], none⟩,
          ⟨(some 18), .mov, [.tmp 5], none⟩,
          ⟨(some 19), .idx 2, [.tmp 17, .tmp 18], none⟩,
          ⟨(some 20), .load 2 true, [.tmp 19], none⟩,
          ⟨(some 21), .mov, [.tmp 1], none⟩,
          ⟨(some 22), .mov, [.tmp 5], none⟩,
          ⟨(some 23), .idx 2, [.tmp 21, .tmp 22], none⟩,
          ⟨(some 24), .load 2 true, [.tmp 23], none⟩,
          ⟨(some 25), .eqa [false, false] true, [.tmp 20, .tmp 24], none⟩] true)
        (.cond (.tmp 25)
          (.seq (.ops [
            ⟨(some 4), .mov, [.const (.bool false)], none⟩] false)
          .ret)
          .skip)))
      (.ops [
        ⟨(some 15), .mov, [.tmp 5], none⟩,
        ⟨(some 16), .bin .add .i64 false, [.tmp 15, .const (.int .i64 1)], none⟩,
        ⟨(some 5), .mov, [.tmp 16], none⟩] false))))))
  (.seq (.ops [
    ⟨(some 4), .mov, [.const (.bool true)], none⟩] false)
  .ret))))⟩
theorem sameSLow : lowF Try.prog {} Try.f17 = some sameSIr := by kernel_rfl
def sameSS : Spec := spec (List Share × List Share) (fun p => [L 2 (p.1.map encS), L 2 (p.2.map encS)]) (fun p => p.1.length ≤ 9223372036854775807) (fun p => B (decide (p.1 = p.2)))
theorem sameSV : fnV Try.prog sameSIr sameSS := by
  intro ⟨(xs : List Share), (ys : List Share)⟩ hx
  replace hx : xs.length ≤ 9223372036854775807 := hx
  have hl : (xs.map encS).length = xs.length := List.length_map ..
  have hl2 : (ys.map encS).length = ys.length := List.length_map ..
  conv => whnf
  refine ⟨fun h => ?_, fun h => ?_⟩
  · conv => whnf
    refine ⟨[], rfl, trivial, congrArg CV.bool ?_⟩
    exact (decide_eq_false fun (e : xs = ys) => h (by subst e; rfl)).symm
  have he : xs.length = ys.length := by have h : ((xs.map encS).length : Int) = (ys.map encS).length := Decidable.not_not.1 h; omega
  conv => whnf
  refine ⟨Nat, fun xq => ⟨[(0, L 2 (xs.map encS)), (1, L 2 (ys.map encS)), (5, I xq)], [], 0⟩, fun xq => xq ≤ xs.length ∧ xs.take xq = ys.take xq, fun xq => xs.length - xq, ⟨0, ?_, [], ⟨⟨rfl, rfl⟩, ⟨⟨rfl, rfl⟩, ⟨⟨rfl, rfl⟩, trivial⟩⟩⟩, trivial, rfl, rfl, rfl⟩, ?_⟩
  · (try dsimp only); exact ⟨Nat.zero_le _, by simp⟩
  rintro k hk
  obtain ⟨hk, hr⟩ : k ≤ xs.length ∧ xs.take k = ys.take k := hk
  (try dsimp only)
  conv => whnf
  refine ⟨fun h => ?_, fun h => ?_⟩
  · replace h : (k : Int) < ((xs.map encS).length : Int) := h
    conv => whnf
    refine ⟨by omega, fun r hr' => ?_⟩
    obtain ⟨x, hx', rfl⟩ := map_get hr'
    rw [Int.toNat_natCast] at hx'
    conv => whnf
    refine ⟨by omega, fun r hr' => ?_⟩
    obtain ⟨y, hy', rfl⟩ := map_get hr'
    rw [Int.toNat_natCast] at hy'
    conv => whnf
    refine ⟨fun hc => ?_, fun hc => ?_⟩
    · conv => whnf
      refine ⟨[], rfl, trivial, congrArg CV.bool ?_⟩
      exact (decide_eq_false (ne_at hx' hy' (fun e => hc (by subst e; exact ⟨rfl, rfl, trivial⟩)))).symm
    · conv => whnf
      refine ⟨⟨by omega, by omega⟩, ?_⟩
      conv => whnf
      (refine ⟨k + 1, ⟨?_, by (try dsimp only); omega⟩, [], ⟨⟨rfl, rfl⟩, ⟨⟨rfl, rfl⟩, ⟨⟨rfl, rfl⟩, trivial⟩⟩⟩, trivial, rfl, rfl, rfl⟩; (try dsimp only); exact ⟨by omega, take_step hr hx' hy' (share_nn hc)⟩)
  · conv => whnf
    refine ⟨[], rfl, trivial, congrArg CV.bool ?_⟩
    exact (decide_eq_true (take_all hr (by omega) (by omega))).symm
theorem sameS_h : Holds Try.prog 17 sameSS := holds_of mix Try.func17 sameSLow (fun _ => rfl) sameSV

end Go.Proofs.Ytbglmocgijlomaa

/- Split: the reference's Quotient. -/
namespace Go.Proofs.Ytbglmocgijlomaa
open Go.RowKit

theorem shr0 {w : Int} (h0 : 0 ≤ w) (h1 : w ≤ 1000000000) : w / 2 ^ 31 = 0 := by
  have : (2 : Int) ^ 31 = 2147483648 := by decide
  rw [this]; omega
theorem quo_bnd {a w s : Int} (ha : 0 ≤ a) (hw : 0 ≤ w) (hs : 0 < s) (hws : w ≤ s) (j : Nat) : (0 ≤ a * (w / 2 ^ j) / s ∧ a * (w / 2 ^ j) / s ≤ a) ∧ 0 ≤ a * (w / 2 ^ j) % s ∧ a * (w / 2 ^ j) % s < s := by
  have h1 : 0 ≤ w / 2 ^ j := Int.ediv_nonneg hw (Int.le_of_lt (Int.pow_pos (by omega)))
  have h2 : w / 2 ^ j ≤ s := Int.le_trans (Int.ediv_le_self _ hw) hws
  refine ⟨⟨Int.ediv_nonneg (Int.mul_nonneg ha h1) (by omega), ?_⟩, Int.emod_nonneg _ (by omega), Int.emod_lt_of_pos _ hs⟩
  refine Int.ediv_le_of_le_mul hs ?_
  exact Int.mul_le_mul_of_nonneg_left h2 ha

/-! skiarea/skiarearef34.Quotient -/
def quoIr : IFn := ⟨44, [.tmp 6, .tmp 7],
  (.seq (.ops [
    ⟨(some 6), .mov, [.const (.int .i64 0)], none⟩,
    ⟨(some 7), .mov, [.const (.int .i64 0)], none⟩] false)
  (.seq (.ops [
    ⟨(some 8), .mov, [.const (.int .i64 0)], none⟩,
    ⟨(some 9), .mov, [.const (.int .i64 0)], none⟩] false)
  (.seq (.seq (.ops [
    ⟨(some 10), .mov, [.const (.int .i64 30)], none⟩] false)
  (.block 0
    (.loop
      (.seq (.seq (.ops [
        ⟨(some 11), .mov, [.tmp 10], none⟩,
        ⟨(some 12), .cmp .geq, [.tmp 11, .const (.int .i64 0)], none⟩] false)
      (.cond (.tmp 12)
        .skip
        (.exit 0)))
      (.seq (.block 1
        (.seq (.ops [
          ⟨(some 15), .mov, [.tmp 8], none⟩,
          ⟨(some 16), .bin .mul .i64 false, [.const (.int .i64 2), .tmp 15], none⟩,
          ⟨(some 8), .mov, [.tmp 16], none⟩] false)
        (.seq (.ops [
          ⟨(some 17), .mov, [.tmp 9], none⟩,
          ⟨(some 18), .bin .mul .i64 false, [.const (.int .i64 2), .tmp 17], none⟩,
          ⟨(some 9), .mov, [.tmp 18], none⟩] false)
        (.seq (.seq (.ops [
          ⟨(some 19), .mov, [.tmp 1], none⟩,
          ⟨(some 20), .mov, [.tmp 10], none⟩,
          ⟨(some 21), .bin .shr .i64 false, [.tmp 19, .tmp 20], none⟩,
          ⟨(some 22), .bin .and .i64 false, [.tmp 21, .const (.int .i64 1)], none⟩,
          ⟨(some 23), .cmp .eql, [.tmp 22, .const (.int .i64 1)], none⟩] false)
        (.cond (.tmp 23)
          (.seq (.ops [
            ⟨(some 24), .mov, [.tmp 8], none⟩,
            ⟨(some 25), .mov, [.tmp 0], none⟩,
            ⟨(some 26), .mov, [.tmp 2], none⟩,
            ⟨(some 27), .bin .quo .i64 false, [.tmp 25, .tmp 26], none⟩,
            ⟨(some 28), .bin .add .i64 false, [.tmp 24, .tmp 27], none⟩,
            ⟨(some 8), .mov, [.tmp 28], none⟩] false)
          (.ops [
            ⟨(some 29), .mov, [.tmp 9], none⟩,
            ⟨(some 30), .mov, [.tmp 0], none⟩,
            ⟨(some 31), .mov, [.tmp 2], none⟩,
            ⟨(some 32), .bin .rem .i64 false, [.tmp 30, .tmp 31], none⟩,
            ⟨(some 33), .bin .add .i64 false, [.tmp 29, .tmp 32], none⟩,
            ⟨(some 9), .mov, [.tmp 33], none⟩] false))
          .skip))
        (.seq (.ops [
          ⟨(some 34), .mov, [.tmp 8], none⟩,
          ⟨(some 35), .mov, [.tmp 9], none⟩,
          ⟨(some 36), .mov, [.tmp 2], none⟩,
          ⟨(some 37), .bin .quo .i64 false, [.tmp 35, .tmp 36], none⟩,
          ⟨(some 38), .bin .add .i64 false, [.tmp 34, .tmp 37], none⟩,
          ⟨(some 8), .mov, [.tmp 38], none⟩] false)
        (.ops [
          ⟨(some 39), .mov, [.tmp 9], none⟩,
          ⟨(some 40), .mov, [.tmp 2], none⟩,
          ⟨(some 41), .bin .rem .i64 false, [.tmp 39, .tmp 40], none⟩,
          ⟨(some 9), .mov, [.tmp 41], none⟩] false))))))
      (.ops [
        ⟨(some 13), .mov, [.tmp 10], none⟩,
        ⟨(some 14), .bin .sub .i64 false, [.tmp 13, .const (.int .i64 1)], none⟩,
        ⟨(some 10), .mov, [.tmp 14], none⟩] false))))))
  (.seq (.ops [
    ⟨(some 42), .mov, [.tmp 8], none⟩,
    ⟨(some 43), .mov, [.tmp 9], none⟩,
    ⟨(some 6), .mov, [.tmp 42], none⟩,
    ⟨(some 7), .mov, [.tmp 43], none⟩] false)
  .ret))))⟩
theorem quoLow : lowF Try.prog {} Try.f58 = some quoIr := by kernel_rfl
def quoS : Spec := spec (Int × Int × Int) (fun p => [I p.1, I p.2.1, I p.2.2]) (fun p => (0 ≤ p.1 ∧ p.1 ≤ 1099511627776) ∧ (0 ≤ p.2.1 ∧ p.2.1 ≤ 1000000000) ∧ (1 ≤ p.2.2 ∧ p.2.2 ≤ 64000000000) ∧ p.2.1 ≤ p.2.2) (fun p => .tup [I (p.1 * p.2.1 / p.2.2), I (p.1 * p.2.1 % p.2.2)])
theorem quoV : fnV Try.prog quoIr quoS := by
  intro ⟨(a : Int), (w : Int), (s : Int)⟩ hx
  obtain ⟨⟨a0, a1⟩, ⟨w0, w1⟩, ⟨s0, s1⟩, hws⟩ : (0 ≤ a ∧ a ≤ 1099511627776) ∧ (0 ≤ w ∧ w ≤ 1000000000) ∧ (1 ≤ s ∧ s ≤ 64000000000) ∧ w ≤ s := hx
  show vc _ _ _ _ ⟨argEnv 0 [I a, I w, I s], [], 0⟩
  conv => whnf
  refine ⟨Int × Int × Int, fun xq => ⟨[(0, I a), (1, I w), (2, I s), (8, I xq.1), (9, I xq.2.1), (10, I xq.2.2)], [], 0⟩, fun xq => ∃ j : Nat, (xq.2.2 = (j : Int) - 1 ∧ j ≤ 31) ∧ xq.1 = a * (w / 2 ^ j) / s ∧ xq.2.1 = a * (w / 2 ^ j) % s, fun xq => (xq.2.2 + 1).toNat, ⟨(0, 0, 30), ?_, [], ⟨⟨rfl, rfl⟩, ⟨⟨rfl, rfl⟩, ⟨⟨rfl, rfl⟩, ⟨⟨rfl, rfl⟩, ⟨⟨rfl, rfl⟩, ⟨⟨rfl, rfl⟩, trivial⟩⟩⟩⟩⟩⟩, trivial, rfl, rfl, rfl⟩, ?_⟩
  · (try dsimp only); exact ⟨31, ⟨rfl, by omega⟩, by rw [shr0 w0 w1]; simp, by rw [shr0 w0 w1]; simp⟩
  rintro ⟨q, r, i⟩ hk
  obtain ⟨j, ⟨hi, hj⟩, hq, hr⟩ : ∃ j : Nat, (i = (j : Int) - 1 ∧ j ≤ 31) ∧ q = a * (w / 2 ^ j) / s ∧ r = a * (w / 2 ^ j) % s := hk
  (try dsimp only)
  obtain ⟨⟨q0, q1⟩, r0, r1⟩ := quo_bnd a0 w0 (show 0 < s by omega) hws j
  rw [← hq] at q0 q1
  rw [← hr] at r0 r1
  cases j with
  | zero =>
    rw [show w / 2 ^ 0 = w by simp] at hq hr
    repeat' ((conv => whnf); first | (refine ⟨fun h => ?_, fun h => ?_⟩ <;> try (exfalso; first | omega | exact absurd h (by decide) | exact h rfl)) | fail | fail)
    exact ⟨[], rfl, trivial, ⟨congrArg (CV.int .i64) hq, congrArg (CV.int .i64) hr, trivial⟩⟩
  | succ j =>
    obtain ⟨⟨q2, q3⟩, r2, r3⟩ := quo_bnd a0 w0 (show 0 < s by omega) hws j
    have hij : i = (j : Int) := by omega
    subst hij
    have e1' := shrj w (show j < 64 by omega)
    have e2' := low1 (w / 2 ^ j)
    have ea := Int.tdiv_eq_ediv_of_nonneg (b := s) a0
    have eb := Int.tmod_eq_emod_of_nonneg (b := s) a0
    have ha3 := Int.ediv_nonneg a0 (show 0 ≤ s by omega)
    have ha4 := Int.ediv_le_self s a0
    have ha5 := Int.emod_nonneg a (show s ≠ 0 by omega)
    have ha6 := Int.emod_lt_of_pos a (show 0 < s by omega)
    rcases Int.emod_two_eq (w / 2 ^ j) with hb | hb
    · obtain ⟨g1, g2⟩ := quo_bit (a := a) (s := s) (by omega) j hb
      rw [← hq, ← hr] at g1
      rw [← hr] at g2
      simp only [Int.zero_mul, Int.add_zero] at g1 g2
      have ec := Int.tdiv_eq_ediv_of_nonneg (b := s) (show 0 ≤ 2 * r by omega)
      have ed := Int.tmod_eq_emod_of_nonneg (b := s) (show 0 ≤ 2 * r by omega)
      have he3 := Int.ediv_nonneg (show 0 ≤ 2 * r by omega) (show 0 ≤ s by omega)
      repeat' ((conv => whnf); first | (refine ⟨(by show (0 : Int) ≤ _; omega), ?_⟩; rw [e1']) | (rw [e2', hb]) | (refine ⟨fun h => ?_, fun h => ?_⟩ <;> try (exfalso; first | omega | exact absurd h (by decide) | exact h rfl)) | (refine ⟨⟨by omega, by omega, by omega⟩, ?_⟩; rw [ec]) | (refine ⟨by omega, ?_⟩; rw [ed]) | (refine ⟨(_, _, _), ⟨?_, by (try dsimp only); omega⟩, [], ⟨⟨rfl, rfl⟩, ⟨⟨rfl, rfl⟩, ⟨⟨rfl, rfl⟩, ⟨⟨rfl, rfl⟩, ⟨⟨rfl, rfl⟩, ⟨⟨rfl, rfl⟩, trivial⟩⟩⟩⟩⟩⟩, trivial, rfl, rfl, rfl⟩; (try dsimp only); exact ⟨j, ⟨by omega, by omega⟩, g1.symm, g2.symm⟩) | refine ⟨⟨by omega, by omega⟩, ?_⟩ | fail)
    · obtain ⟨g1, g2⟩ := quo_bit (a := a) (s := s) (by omega) j hb
      rw [← hq, ← hr] at g1
      rw [← hr] at g2
      simp only [Int.one_mul] at g1 g2
      have ec := Int.tdiv_eq_ediv_of_nonneg (b := s) (show 0 ≤ 2 * r + a % s by omega)
      have ed := Int.tmod_eq_emod_of_nonneg (b := s) (show 0 ≤ 2 * r + a % s by omega)
      have he3 := Int.ediv_nonneg (show 0 ≤ 2 * r + a % s by omega) (show 0 ≤ s by omega)
      repeat' ((conv => whnf); first | (refine ⟨(by show (0 : Int) ≤ _; omega), ?_⟩; rw [e1']) | (rw [e2', hb]) | (refine ⟨fun h => ?_, fun h => ?_⟩ <;> try (exfalso; first | omega | exact absurd h (by decide) | exact h rfl)) | (refine ⟨⟨by omega, by omega, by omega⟩, ?_⟩; rw [ea]) | (refine ⟨⟨by omega, by omega, by omega⟩, ?_⟩; rw [ec]) | (refine ⟨by omega, ?_⟩; rw [eb]) | (refine ⟨by omega, ?_⟩; rw [ed]) | (refine ⟨(_, _, _), ⟨?_, by (try dsimp only); omega⟩, [], ⟨⟨rfl, rfl⟩, ⟨⟨rfl, rfl⟩, ⟨⟨rfl, rfl⟩, ⟨⟨rfl, rfl⟩, ⟨⟨rfl, rfl⟩, ⟨⟨rfl, rfl⟩, trivial⟩⟩⟩⟩⟩⟩, trivial, rfl, rfl, rfl⟩; (try dsimp only); exact ⟨j, ⟨by omega, by omega⟩, g1.symm, g2.symm⟩) | refine ⟨⟨by omega, by omega⟩, ?_⟩ | fail)
theorem quo_h : Holds Try.prog 58 quoS := holds_of mix Try.func58 quoLow (fun _ => rfl) quoV

end Go.Proofs.Ytbglmocgijlomaa

/- Halves of 64 bits: plain. No program in sight. -/
namespace Go.Proofs.Ytbglmocgijlomaa
open Go.RowKit

theorem wrap_u64 (n : Int) : IntKind.wrap .u64 n = n % 18446744073709551616 := by
  simp only [IntKind.wrap, IntKind.bits, IntKind.signed]
  simp
theorem shr32 (n : Int) : n.fdiv (2 ^ Nat.min ((32 : Int).toNat) (IntKind.bits .u64)) = n / 4294967296 := by
  rw [Int.fdiv_eq_ediv_of_nonneg _ (by decide)]
  rfl
theorem low32 (n : Int) : IntKind.wrap .u64 ((BitVec.ofInt (IntKind.bits .u64) n &&& BitVec.ofInt (IntKind.bits .u64) 4294967295).toNat) = n % 4294967296 := by
  rw [BitVec.toNat_and]
  have h1 : (BitVec.ofInt (IntKind.bits .u64) 4294967295).toNat = 2 ^ 32 - 1 := by decide
  have h2 : (BitVec.ofInt (IntKind.bits .u64) n).toNat = (n % 18446744073709551616).toNat := by
    rw [BitVec.toNat_ofInt]; rfl
  rw [h1, Nat.and_two_pow_sub_one_eq_mod, h2, wrap_u64]
  omega
end Go.Proofs.Ytbglmocgijlomaa

/- Split: math/bits.Mul64. -/
namespace Go.Proofs.Ytbglmocgijlomaa
open Go.RowKit
abbrev U (n : Int) : SV := .c (.int .u64 n)
theorem mul_parts (a w : Int) : (a / 4294967296 * w + a % 4294967296 * w / 4294967296) = a * w / 4294967296 := by
  have h := Int.mul_ediv_add_emod a 4294967296
  have h2 : a * w = a % 4294967296 * w + 4294967296 * (a / 4294967296 * w) := by
    conv => lhs; rw [← h, Int.add_mul, Int.mul_assoc]
    rw [Int.add_comm]
  rw [h2, Int.add_mul_ediv_left _ _ (by decide)]
  omega
theorem two_div (n : Int) : n / 4294967296 / 4294967296 = n / 18446744073709551616 := by
  rw [Int.ediv_ediv_of_nonneg (by decide)]; rfl

/-! math/bits.Mul64 -/
def mulIr : IFn := ⟨51, [.tmp 4, .tmp 5],
  (.seq (.ops [
    ⟨(some 4), .mov, [.const (.int .u64 0)], none⟩,
    ⟨(some 5), .mov, [.const (.int .u64 0)], none⟩] false)
  (.seq (.ops [
    ⟨(some 14), .mov, [.tmp 0], none⟩,
    ⟨(some 15), .bin .and .u64 false, [.tmp 14, .const (.int .u64 4294967295)], none⟩,
    ⟨(some 6), .mov, [.tmp 15], none⟩] false)
  (.seq (.ops [
    ⟨(some 16), .mov, [.tmp 0], none⟩,
    ⟨(some 17), .bin .shr .u64 false, [.tmp 16, .const (.int .u64 32)], none⟩,
    ⟨(some 7), .mov, [.tmp 17], none⟩] false)
  (.seq (.ops [
    ⟨(some 18), .mov, [.tmp 1], none⟩,
    ⟨(some 19), .bin .and .u64 false, [.tmp 18, .const (.int .u64 4294967295)], none⟩,
    ⟨(some 8), .mov, [.tmp 19], none⟩] false)
  (.seq (.ops [
    ⟨(some 20), .mov, [.tmp 1], none⟩,
    ⟨(some 21), .bin .shr .u64 false, [.tmp 20, .const (.int .u64 32)], none⟩,
    ⟨(some 9), .mov, [.tmp 21], none⟩] false)
  (.seq (.ops [
    ⟨(some 22), .mov, [.tmp 6], none⟩,
    ⟨(some 23), .mov, [.tmp 8], none⟩,
    ⟨(some 24), .bin .mul .u64 false, [.tmp 22, .tmp 23], none⟩,
    ⟨(some 10), .mov, [.tmp 24], none⟩] false)
  (.seq (.ops [
    ⟨(some 25), .mov, [.tmp 7], none⟩,
    ⟨(some 26), .mov, [.tmp 8], none⟩,
    ⟨(some 27), .bin .mul .u64 false, [.tmp 25, .tmp 26], none⟩,
    ⟨(some 28), .mov, [.tmp 10], none⟩,
    ⟨(some 29), .bin .shr .u64 false, [.tmp 28, .const (.int .u64 32)], none⟩,
    ⟨(some 30), .bin .add .u64 false, [.tmp 27, .tmp 29], none⟩,
    ⟨(some 11), .mov, [.tmp 30], none⟩] false)
  (.seq (.ops [
    ⟨(some 31), .mov, [.tmp 11], none⟩,
    ⟨(some 32), .bin .and .u64 false, [.tmp 31, .const (.int .u64 4294967295)], none⟩,
    ⟨(some 12), .mov, [.tmp 32], none⟩] false)
  (.seq (.ops [
    ⟨(some 33), .mov, [.tmp 11], none⟩,
    ⟨(some 34), .bin .shr .u64 false, [.tmp 33, .const (.int .u64 32)], none⟩,
    ⟨(some 13), .mov, [.tmp 34], none⟩] false)
  (.seq (.ops [
    ⟨(some 35), .mov, [.tmp 12], none⟩,
    ⟨(some 36), .mov, [.tmp 6], none⟩,
    ⟨(some 37), .mov, [.tmp 9], none⟩,
    ⟨(some 38), .bin .mul .u64 false, [.tmp 36, .tmp 37], none⟩,
    ⟨(some 39), .bin .add .u64 false, [.tmp 35, .tmp 38], none⟩,
    ⟨(some 12), .mov, [.tmp 39], none⟩] false)
  (.seq (.ops [
    ⟨(some 40), .mov, [.tmp 7], none⟩,
    ⟨(some 41), .mov, [.tmp 9], none⟩,
    ⟨(some 42), .bin .mul .u64 false, [.tmp 40, .tmp 41], none⟩,
    ⟨(some 43), .mov, [.tmp 13], none⟩,
    ⟨(some 44), .bin .add .u64 false, [.tmp 42, .tmp 43], none⟩,
    ⟨(some 45), .mov, [.tmp 12], none⟩,
    ⟨(some 46), .bin .shr .u64 false, [.tmp 45, .const (.int .u64 32)], none⟩,
    ⟨(some 47), .bin .add .u64 false, [.tmp 44, .tmp 46], none⟩,
    ⟨(some 4), .mov, [.tmp 47], none⟩] false)
  (.seq (.ops [
    ⟨(some 48), .mov, [.tmp 0], none⟩,
    ⟨(some 49), .mov, [.tmp 1], none⟩,
    ⟨(some 50), .bin .mul .u64 true, [.tmp 48, .tmp 49], none⟩,
    ⟨(some 5), .mov, [.tmp 50], none⟩] false)
  .ret))))))))))))⟩
theorem mulLow : lowF Try.prog { wraps := [50] } Try.f62 = some mulIr := by kernel_rfl
def mulS : Spec := spec (Int × Int) (fun p => [U p.1, U p.2]) (fun p => (0 ≤ p.1 ∧ p.1 ≤ 1099511627776) ∧ 0 ≤ p.2 ∧ p.2 ≤ 1000000000) (fun p => .tup [U (p.1 * p.2 / 18446744073709551616), U (p.1 * p.2 % 18446744073709551616)])
theorem mulV : fnV Try.prog mulIr mulS := by
  intro ⟨(a : Int), (w : Int)⟩ hx
  obtain ⟨⟨a0, a1⟩, w0, w1⟩ : (0 ≤ a ∧ a ≤ 1099511627776) ∧ 0 ≤ w ∧ w ≤ 1000000000 := hx
  have la := low32 a
  have lw := low32 w
  have lw' : w % 4294967296 = w := by omega
  have hw' : w / 4294967296 = 0 := by omega
  rw [lw'] at lw
  have m0 : 0 ≤ a % 4294967296 * w := Int.mul_nonneg (by omega) w0
  have m1 : a % 4294967296 * w ≤ 4294967296 * w := Int.mul_le_mul_of_nonneg_right (by omega) w0
  have n0 : 0 ≤ a / 4294967296 * w := Int.mul_nonneg (by omega) w0
  have n1 : a / 4294967296 * w ≤ 4294967296 * w := Int.mul_le_mul_of_nonneg_right (by omega) w0
  have hp := mul_parts a w
  have hd := two_div (a * w)
  have lt := low32 (a * w / 4294967296)
  have hu := wrap_u64 (a * w)
  have p0 : 0 ≤ a * w := Int.mul_nonneg a0 w0
  show vc _ _ _ _ ⟨argEnv 0 [U a, U w], [], 0⟩
  repeat' ((conv => whnf); first | (rw [la]) | (rw [lw]) | (rw [lt]) | (rw [hu]) | (refine ⟨by decide, ?_⟩; rw [shr32, hw']) | (refine ⟨by decide, ?_⟩; rw [shr32, hd]) | (refine ⟨by decide, ?_⟩; rw [shr32]) | (refine ⟨inR_u64 (by omega) (by omega), ?_⟩; rw [hp]) | (refine ⟨inR_u64 (by omega) (by omega), ?_⟩) | fail)
  refine ⟨[], rfl, trivial, ⟨congrArg (CV.int .u64) ?_, rfl, trivial⟩⟩
  show _ = a * w / 18446744073709551616
  omega
theorem mul_h : Holds Try.prog 62 mulS := holds_of mix Try.func62 mulLow (fun _ => rfl) mulV

end Go.Proofs.Ytbglmocgijlomaa

/- What Split checks: plain. No program in sight. -/
namespace Go.Proofs.Ytbglmocgijlomaa
open Go.RowKit

def okW (w : Int) : Prop := 0 ≤ w ∧ w ≤ 1000000000
instance (w : Int) : Decidable (okW w) := by unfold okW; infer_instance
def chkF (a : Int) (ws : List Int) : Int := if 64 < ws.length then 4 else if a < 0 ∨ 1099511627776 < a then 2 else if ∀ w ∈ ws, okW w then (if ws.sum = 0 then 1 else 0) else 2
def chkT (a : Int) (ws : List Int) : SV := .tup [.c (.int .i64 (if chkF a ws = 0 then ws.sum else 0)), .c (.int .i64 (chkF a ws))]
theorem sum_ok : ∀ {ws : List Int}, (∀ w ∈ ws, okW w) → 0 ≤ ws.sum ∧ ws.sum ≤ 1000000000 * ws.length
  | [], _ => by simp
  | w :: r, h => by
    obtain ⟨h1, h2⟩ := sum_ok (ws := r) fun x hx => h x (by simp [hx])
    have := h w (by simp)
    unfold okW at this
    simp only [List.sum_cons, List.length_cons]
    omega
theorem runO_ok : ∀ {ws : List Int} {s : Int}, (∀ w ∈ ws, okW w) → 0 ≤ s → s + 1000000000 * ws.length ≤ 1099511627776 → runO s ws = some (s + ws.sum)
  | [], s, _, _, _ => by simp [runO]
  | w :: r, s, h, h0, h1 => by
    have hw := h w (by simp)
    unfold okW at hw
    simp only [List.length_cons] at h1
    have hp : plusF s w = some (s + w) := if_neg (by omega)
    rw [runO, hp]
    simp only
    rw [runO_ok (fun x hx => h x (by simp [hx])) (by omega) (by omega), List.sum_cons, Int.add_assoc]
end Go.Proofs.Ytbglmocgijlomaa

/- Split: check. -/
namespace Go.Proofs.Ytbglmocgijlomaa
open Go.RowKit

/-! skiarea/split.check -/
def checkIr : IFn := ⟨40, [.tmp 4, .tmp 5],
  (.seq (.ops [
    ⟨(some 4), .mov, [.const (.int .i64 0)], none⟩,
    ⟨(some 5), .mov, [.const (.int .i64 0)], none⟩] false)
  (.seq (.seq (.ops [
    ⟨(some 10), .mov, [.tmp 1], none⟩,
    ⟨(some 11), .len, [.tmp 10], none⟩,
    ⟨(some 12), .cmp .gtr, [.tmp 11, .const (.int .i64 64)], none⟩] false)
  (.cond (.tmp 12)
    (.seq (.ops [
      ⟨(some 4), .mov, [.const (.int .i64 0)], none⟩,
      ⟨(some 5), .mov, [.const (.int .i64 4)], none⟩] false)
    .ret)
    .skip))
  (.seq (.seq (.ops [
    ⟨(some 13), .mov, [.tmp 0], none⟩,
    ⟨(some 14), .cmp .lss, [.tmp 13, .const (.int .i64 0)], none⟩,
    ⟨(some 15), .mov, [.tmp 14], none⟩,
    ⟨(some 16), .mov, [.tmp 0], (some (15, false))⟩,
    ⟨(some 17), .cmp .gtr, [.tmp 16, .const (.int .i64 1099511627776)], (some (15, false))⟩,
    ⟨(some 18), .pick, [.tmp 15, .const (.bool true), .tmp 17], none⟩] false)
  (.cond (.tmp 18)
    (.seq (.ops [
      ⟨(some 4), .mov, [.const (.int .i64 0)], none⟩,
      ⟨(some 5), .mov, [.const (.int .i64 2)], none⟩] false)
    .ret)
    .skip))
  (.seq (.seq (.ops [
    ⟨(some 19), .mov, [.tmp 1], none⟩,
    ⟨(some 20), .len, [.tmp 19], none⟩,
    ⟨(some 21), .mov, [.const (.int .i64 0)], none⟩] false)
  (.block 0
    (.loop
      (.seq (.ops [
        ⟨(some 22), .cmp .lss, [.tmp 21, .tmp 20], none⟩] false)
      (.seq (.cond (.tmp 22)
        .skip
        (.exit 0))
      (.seq (.block 1
        (.seq (.ops [
          ⟨(some 23), .idx 1, [.tmp 19, .tmp 21], none⟩,
          ⟨(some 24), .load 1 false, [.tmp 23], none⟩,
          ⟨(some 7), .mov, [.tmp 24], none⟩] false)
        (.seq (.ops [
          ⟨(some 25), .mov, [.tmp 7], none⟩,
          ⟨(some 26), .cmp .lss, [.tmp 25, .const (.int .i64 0)], none⟩,
          ⟨(some 27), .mov, [.tmp 26], none⟩,
          ⟨(some 28), .mov, [.tmp 7], (some (27, false))⟩,
          ⟨(some 29), .cmp .gtr, [.tmp 28, .const (.int .i64 1000000000)], (some (27, false))⟩,
          ⟨(some 30), .pick, [.tmp 27, .const (.bool true), .tmp 29], none⟩] false)
        (.cond (.tmp 30)
          (.seq (.ops [
            ⟨(some 4), .mov, [.const (.int .i64 0)], none⟩,
            ⟨(some 5), .mov, [.const (.int .i64 2)], none⟩] false)
          .ret)
          .skip))))
      (.ops [
        ⟨(some 31), .bin .add .i64 false, [.tmp 21, .const (.int .i64 1)], none⟩,
        ⟨(some 21), .mov, [.tmp 31], none⟩] false)))))))
  (.seq (.ops [
    ⟨(some 33), .mov, [.tmp 1], none⟩,
    ⟨(some 34), .call 60, [.tmp 33, .func 61], none⟩,
    ⟨(some 32), .mov, [.tmp 34], none⟩,
    ⟨(some 35), .extract 0, [.tmp 32], none⟩,
    ⟨(some 36), .extract 1, [.tmp 32], none⟩,
    ⟨(some 8), .mov, [.tmp 35], none⟩,
    ⟨(some 9), .mov, [.tmp 36], none⟩] false)
  (.seq (.seq (.ops [
    ⟨(some 37), .mov, [.tmp 8], none⟩,
    ⟨(some 38), .cmp .eql, [.tmp 37, .const (.int .i64 0)], none⟩] false)
  (.cond (.tmp 38)
    (.seq (.ops [
      ⟨(some 4), .mov, [.const (.int .i64 0)], none⟩,
      ⟨(some 5), .mov, [.const (.int .i64 1)], none⟩] false)
    .ret)
    .skip))
  (.seq (.ops [
    ⟨(some 39), .mov, [.tmp 8], none⟩,
    ⟨(some 4), .mov, [.tmp 39], none⟩,
    ⟨(some 5), .mov, [.const (.int .i64 0)], none⟩] false)
  .ret)))))))⟩
theorem checkLow : lowF Try.prog {} Try.f37 = some checkIr := by kernel_rfl
def checkS : Spec := spec (Int × List Int) (fun p => [I p.1, L 1 (p.2.map e1)]) (fun p => p.2.length ≤ 1000000) (fun p => chkT p.1 p.2)
theorem checkV : fnV Try.prog checkIr checkS := by
  intro ⟨(a : Int), (ws : List Int)⟩ hx
  replace hx : ws.length ≤ 1000000 := hx
  have hl : (ws.map e1).length = ws.length := List.length_map ..
  show vc _ _ _ _ ⟨argEnv 0 [I a, L 1 (ws.map e1)], [], 0⟩
  by_cases h8 : 64 < ws.length
  · have hc : chkF a ws = 4 := if_pos h8
    repeat' ((conv => whnf); first | (refine ⟨fun h => ?_, fun h => ?_⟩ <;> try (exfalso; first | omega | exact absurd h (by decide) | exact h rfl)) | fail | fail)
    all_goals (refine ⟨[], rfl, trivial, ?_⟩; show leR _ (chkT a ws); unfold chkT; rw [hc]; exact ⟨rfl, rfl, trivial⟩)
  by_cases ha : a < 0 ∨ 1099511627776 < a
  · have hc : chkF a ws = 2 := by unfold chkF; rw [if_neg h8, if_pos ha]
    repeat' ((conv => whnf); first | (refine ⟨fun h => ?_, fun h => ?_⟩ <;> try (exfalso; first | omega | exact absurd h (by decide) | exact h rfl)) | fail | fail)
    all_goals (refine ⟨[], rfl, trivial, ?_⟩; show leR _ (chkT a ws); unfold chkT; rw [hc]; exact ⟨rfl, rfl, trivial⟩)
  repeat' ((conv => whnf); first | (refine ⟨fun h => ?_, fun h => ?_⟩ <;> try (exfalso; first | omega | exact absurd h (by decide) | exact h rfl)) | fail | fail)
  refine ⟨Nat, fun xq => ⟨[(1, L 1 (ws.map e1)), (19, L 1 (ws.map e1)), (20, I (ws.map e1).length), (21, I xq)], [], 0⟩, fun xq => xq ≤ ws.length ∧ ∀ w ∈ ws.take xq, okW w, fun xq => ws.length - xq, ⟨0, ?_, [], ⟨⟨rfl, rfl⟩, ⟨⟨rfl, rfl⟩, ⟨⟨rfl, rfl⟩, ⟨⟨rfl, rfl⟩, trivial⟩⟩⟩⟩, trivial, rfl, rfl, rfl⟩, ?_⟩
  · (try dsimp only); exact ⟨Nat.zero_le _, by simp⟩
  rintro k hk
  obtain ⟨hk, hn⟩ : k ≤ ws.length ∧ ∀ w ∈ ws.take k, okW w := hk
  (try dsimp only)
  by_cases hkl : k < ws.length
  · obtain ⟨x, hx⟩ := getElem_some hkl
    by_cases hw : okW x
    · have hw' := hw
      unfold okW at hw'
      repeat' ((conv => whnf); first | (refine ⟨k + 1, ⟨?_, by (try dsimp only); omega⟩, [], ⟨⟨rfl, rfl⟩, ⟨⟨rfl, rfl⟩, ⟨⟨rfl, rfl⟩, ⟨⟨rfl, rfl⟩, trivial⟩⟩⟩⟩, trivial, rfl, rfl, rfl⟩; (try dsimp only); exact ⟨by omega, fun y hy => by rw [take_snoc ws k x hx] at hy; rcases List.mem_append.1 hy with h | h; exact hn y h; rw [List.mem_singleton] at h; subst h; exact hw⟩) | (refine ⟨fun h => ?_, fun h => ?_⟩ <;> try (exfalso; first | omega | exact absurd h (by decide) | exact h rfl)) | (refine ⟨by omega, fun r hrr => ?_⟩; obtain rfl := get_row hrr hx) | refine ⟨⟨by omega, by omega⟩, ?_⟩ | fail)
    · have hw' := hw
      unfold okW at hw'
      have hc : chkF a ws = 2 := by unfold chkF; rw [if_neg h8, if_neg ha, if_neg fun h => hw (h x (List.mem_of_getElem? hx))]
      repeat' ((conv => whnf); first | (refine ⟨fun h => ?_, fun h => ?_⟩ <;> try (exfalso; first | omega | exact absurd h (by decide) | exact h rfl)) | (refine ⟨by omega, fun r hrr => ?_⟩; obtain rfl := get_row hrr hx) | fail | fail)
      all_goals (refine ⟨[], rfl, trivial, ?_⟩; show leR _ (chkT a ws); unfold chkT; rw [hc]; exact ⟨rfl, rfl, trivial⟩)
  · rw [take_end hkl] at hn
    obtain ⟨t0, t1⟩ := sum_ok hn
    have hr := runO_ok (s := 0) hn (by omega) (by omega)
    rw [Int.zero_add] at hr
    have hmi : (ws.map fun x : Int => x) = ws := List.map_id' ws
    by_cases h0 : ws.sum = 0
    · have hc : chkF a ws = 1 := by unfold chkF; rw [if_neg h8, if_neg ha, if_pos hn, if_pos h0]
      repeat' ((conv => whnf); first | (refine ⟨fun h => ?_, fun h => ?_⟩ <;> try (exfalso; first | omega | exact absurd h (by decide) | exact h rfl)) | (refine ⟨_, runI_h, ws, hx, leVs_of_eq rfl, .inl rfl, rfl, ?_⟩; show norm (optT (runO 0 (ws.map fun x : Int => x))) _; rw [hmi, hr]) | fail | fail)
      all_goals (refine ⟨[], rfl, trivial, ?_⟩; show leR _ (chkT a ws); unfold chkT; rw [hc]; exact ⟨rfl, rfl, trivial⟩)
    · have hc : chkF a ws = 0 := by unfold chkF; rw [if_neg h8, if_neg ha, if_pos hn, if_neg h0]
      repeat' ((conv => whnf); first | (refine ⟨fun h => ?_, fun h => ?_⟩ <;> try (exfalso; first | omega | exact absurd h (by decide) | exact h rfl)) | (refine ⟨_, runI_h, ws, hx, leVs_of_eq rfl, .inl rfl, rfl, ?_⟩; show norm (optT (runO 0 (ws.map fun x : Int => x))) _; rw [hmi, hr]) | fail | fail)
      all_goals (refine ⟨[], rfl, trivial, ?_⟩; show leR _ (chkT a ws); unfold chkT; rw [hc, if_pos rfl]; exact ⟨rfl, rfl, trivial⟩)
theorem check_h : Holds Try.prog 37 checkS := holds_of mix Try.func37 checkLow (fun _ => rfl) checkV

end Go.Proofs.Ytbglmocgijlomaa

/- Even parts: plain. No program in sight. -/
namespace Go.Proofs.Ytbglmocgijlomaa
open Go.RowKit

def evI (a n i : Int) : Int := a / n + if i < a % n then 1 else 0
def evenL (a n : Int) (k : Nat) : List Int := (List.range k).map fun i : Nat => evI a n i
def evErr (a n : Int) : Int := if a < 0 ∨ 1099511627776 < a then 2 else if n < 1 ∨ 64 < n then 1 else 0
theorem evenL_len (a n : Int) (k : Nat) : (evenL a n k).length = k := by simp [evenL]
theorem evenL_snoc (a n : Int) (k : Nat) : evenL a n (k + 1) = evenL a n k ++ [evI a n k] := by simp [evenL, List.range_succ]
/-- A row of k that is filled up to j. -/
def fillE (a n : Int) (k j : Nat) : List Int := evenL a n j ++ List.replicate (k - j) 0
theorem fillE_len {a n : Int} {k j : Nat} (h : j ≤ k) : (fillE a n k j).length = k := by rw [fillE, List.length_append, evenL_len, List.length_replicate]; omega
theorem fillE_set {a n : Int} {k j : Nat} (h : j < k) (x : Int) (hx : x = evI a n j) : (fillE a n k j).set j x = fillE a n k (j + 1) := by
  subst hx
  obtain ⟨m, hm⟩ : ∃ m, k - j = m + 1 := ⟨k - j - 1, by omega⟩
  rw [fillE, fillE, evenL_snoc, hm, show k - (j + 1) = m by omega, List.replicate_succ, List.set_append_right _ _ (by rw [evenL_len]; omega), evenL_len, Nat.sub_self, List.set_cons_zero, List.append_assoc]
  rfl
theorem fillE_end (a n : Int) (k : Nat) : fillE a n k k = evenL a n k := by simp [fillE]
theorem fillE_start (a n : Int) (k : Nat) : fillE a n k 0 = List.replicate k 0 := by simp [fillE, evenL]
end Go.Proofs.Ytbglmocgijlomaa
