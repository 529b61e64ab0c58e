/- A part of the proof. -/
import Derived.Test.YtjpdaapjnpdiiaaGreatS1
import Derived.Test.YtjpdaapjnpdiiaaGreatS2
namespace Go.Proofs.YtjpdaapjnpdiiaaGreat
structure Mid (f : Int → Int) (l cur : List Int) : Prop where
 perm : cur.Perm l
 st : cur.Pairwise (stb f)
theorem Mid.part {f : Int → Int} {l P A R S : List Int} (h : Mid f l (P ++ (A ++ S))) (k : SortedOf f A R) : Mid f l (P ++ (R ++ S)) :=
 ⟨(List.Perm.append_left P (List.Perm.append_right S k.1)).trans h.perm, stb_part h.st k⟩
theorem Mid.stA {f : Int → Int} {l P A S : List Int} (h : Mid f l (P ++ (A ++ S))) : A.Pairwise (stb f) := by
 have := h.st
 rw [List.pairwise_append, List.pairwise_append] at this
 exact this.2.1.1
theorem Mid.cross {f : Int → Int} {l P A B S : List Int} (h : Mid f l (P ++ ((A ++ B) ++ S))) : ∀ y ∈ A, ∀ z ∈ B, stb f y z := by
 have := h.stA
 rw [List.pairwise_append] at this
 exact this.2.2
theorem Mid.mem {f : Int → Int} {l P A S : List Int} (h : Mid f l (P ++ (A ++ S))) {y : Int} (hy : y ∈ A) : y ∈ l := h.perm.mem_iff.1 (by simp [hy])
theorem Mid.len {f : Int → Int} {l cur : List Int} (h : Mid f l cur) : cur.length = l.length := h.perm.length_eq
theorem blk_snoc {f : Int → Int} {k t : Nat} {D R : List Int} (hk : 0 < k) (hd : D.length = t * k) (h : Blk f k D) (hR : R.Pairwise (bef f)) : Blk f k (D ++ R) := (blk_app hk hd).2 ⟨h, blk_of hR⟩
theorem blk_nil {f : Int → Int} {k : Nat} : Blk f k [] := fun p q x y _ _ hx => by simp at hx
theorem blk_len {k t : Nat} {D R : List Int} (hd : D.length = t * k) (hR : R.length = k) : (D ++ R).length = (t + 1) * k := by rw [List.length_append, hd, hR, Nat.succ_mul]
theorem cut_at {E : List Int} {k : Nat} (h : k ≤ E.length) : ∃ A S, E = A ++ S ∧ A.length = k ∧ E.take k = A ∧ E.drop k = S := ⟨E.take k, E.drop k, (List.take_append_drop ..).symm, by rw [List.length_take]; omega, rfl, rfl⟩
structure StX where
 rs : List Int
 l : List Int
 R : List Int
def stP (x : StX) : Prop := ((∀ y ∈ x.l, 0 ≤ y ∧ y < x.rs.length) ∧ x.rs.length ≤ 1000000) ∧ (x.l.Pairwise (stb (keyR x.rs)) ∧ SortedOf (keyR x.rs) x.l x.R) ∧ x.l.length ≤ 1000000
def stabS : GSpec := ⟨StX, fun x => [.row 3 1 (x.l.map e1)], fun x => [.osl 0, I x.l.length, .fn 49 [.rp [.sl 1 (x.rs.map e1)]]], stP, fun _ => .tup [], fun x => [.row 3 1 (x.R.map e1)], fun _ => []⟩
def sortS : GSpec := ⟨StX, fun x => [.row 3 1 (x.l.map e1)], fun x => [.osl 0, .fn 49 [.rp [.sl 1 (x.rs.map e1)]]], stP, fun _ => .tup [], fun x => [.row 3 1 (x.R.map e1)], fun _ => []⟩
theorem insPre {rs l P A S R : List Int} (hm : Mid (keyR rs) l (P ++ (A ++ S))) (hrg : ∀ y ∈ l, 0 ≤ y ∧ y < rs.length) (hrs : rs.length ≤ 1000000) (hl : l.length ≤ 1000000) (hR : SortedOf (keyR rs) A R) : insS.pre ⟨rs, P, A, S, R⟩ :=
 ⟨⟨fun y hy => hrg y (hm.mem hy), hrs, hm.stA, hR⟩, by show (P ++ (A ++ S)).length ≤ 1000000; rw [hm.len]; exact hl⟩
theorem symPre {rs l P A B S R : List Int} (hm : Mid (keyR rs) l (P ++ ((A ++ B) ++ S))) (hrg : ∀ y ∈ l, 0 ≤ y ∧ y < rs.length) (hrs : rs.length ≤ 1000000) (hl : l.length ≤ 1000000) (hR : SortedOf (keyR rs) (A ++ B) R) (hA : A.Pairwise (bef (keyR rs))) (hB : B.Pairwise (bef (keyR rs))) (h1 : 0 < A.length) (h2 : 0 < B.length) : (symS (A.length + B.length)).pre ⟨rs, P, A, B, S, R⟩ :=
 ⟨⟨fun y hy => hrg y (hm.mem hy), hrs⟩, ⟨hA, hB, hm.cross, hR⟩, ⟨h1, h2, Nat.le_refl _⟩, by show (P ++ (A ++ (B ++ S))).length ≤ 1000000; rw [← List.append_assoc A, hm.len]; exact hl⟩
def stabIr : IFn := ⟨63, [], (zq [ zl 6 .mov [zi 20]] (zq [ zm 10 6, zl 7 .mov [zi 0], zm 8 10] (.seq (.block 0 (.loop (.seq (zq [ zm 11 8, zm 12 1, zo 13 (.cmp .leq) [11, 12]] (.cond (.tmp 13) .skip (.exit 0))) (.block 1 (zq [ zm 14 0, zm 15 7, zm 16 8, zm 17 2, zo 18 (.callg 96) [14, 15, 16, 17]] (zq [ zm 19 8, zm 7 19] (zp [ zm 20 8, zm 21 6, zo 22 (.bin .add .i64 false) [20, 21], zm 8 22]))))))) (zq [ zm 23 0, zm 24 7, zm 25 1, zm 26 2, zo 27 (.callg 96) [23, 24, 25, 26]] (.block 2 (.loop (.seq (zq [ zm 28 6, zm 29 1, zo 30 (.cmp .lss) [28, 29]] (.cond (.tmp 30) .skip (.exit 2))) (.block 3 (zq [ zm 31 6, zl 32
 (.bin .mul .i64 false) [zi 2, .tmp 31], zl 7 .mov [zi 0], zm 8 32] (.seq (.block 4 (.loop (.seq (zq [ zm 33 8, zm 34 1, zo 35 (.cmp .leq) [33, 34]] (.cond (.tmp 35) .skip (.exit 4))) (.block 5 (zq [ zm 36 0, zm 37 7, zm 38 7, zm 39 6, zo 40 (.bin .add .i64 false) [38, 39], zm 41 8, zm 42 2, zo 43 (.callg 97) [36, 37, 40, 41, 42]] (zq [ zm 44 8, zm 7 44] (zp [ zm 45 8, zm 46 6, zl 47 (.bin .mul .i64 false) [zi 2, .tmp 46], zo 48 (.bin .add .i64 false) [45, 47], zm 8 48]))))))) (.seq (zq [ zm 49 7, zm 50 6, zo 51 (.bin .add .i64 false) [49, 50], zm 9 51] (zq [ zm 52 9, zm 53 1, zo 54 (.cmp .lss)
 [52, 53]] (.cond (.tmp 54) (zp [ zm 55 0, zm 56 7, zm 57 9, zm 58 1, zm 59 2, zo 60 (.callg 97) [55, 56, 57, 58, 59]]) .skip))) (zp [ zm 61 6, zl 62 (.bin .mul .i64 false) [.tmp 61, zi 2], zm 6 62]))))))))))))⟩
theorem stabLow : lowF Tryz.prog { gvs := [18, 27, 43, 60] } Tryz.f79 = some stabIr := by kernel_rfl
set_option maxHeartbeats 1000000 in
theorem stabV : fnG Tryz.prog stabIr stabS := by
 intro ⟨rs, l, R⟩ hx
 obtain ⟨⟨hrg, hrs⟩, ⟨hst, hso⟩, hlen⟩ : ((∀ y ∈ l, 0 ≤ y ∧ y < rs.length) ∧ rs.length ≤ 1000000) ∧ (l.Pairwise (stb (keyR rs)) ∧ SortedOf (keyR rs) l R) ∧ l.length ≤ 1000000 := hx
 show vc _ _ _ _ ⟨argEnv 0 [.osl 0, I l.length, .fn 49 [.rp [.sl 1 (rs.map e1)]]], idxFrom 0 [.row 3 1 (l.map e1)], 1⟩
 conv => whnf
 refine ⟨Int × Int × (List (List CV)), fun xq => ⟨[(0, .osl 0), (1, I l.length), (2, .fn 49 [.rp [.sl 1 (rs.map e1)]]), (6, I 20), (7, I xq.1), (8, I xq.2.1)], [(0, .row 3 1 xq.2.2)], 1⟩, fun xq => ∃ (D E : List Int) (t : Nat), (xq.1 = D.length ∧ xq.2.1 = xq.1 + 20 ∧ D.length = t * 20) ∧ Mid (keyR rs) l (D ++ E) ∧ Blk (keyR rs) 20 D ∧ xq.2.2 = (D ++ E).map e1, fun xq => (l.length - xq.1).toNat, ⟨(_, _, _), ?_, [], ⟨⟨rfl, rfl⟩, ⟨rfl, rfl⟩, ⟨rfl, rfl⟩, ⟨rfl, rfl⟩, ⟨rfl, rfl⟩, ⟨rfl, rfl⟩, trivial⟩, ⟨⟨rfl, rfl, rfl⟩, trivial⟩, rfl, rfl, rfl⟩, ?_⟩
 · (try dsimp only); exact ⟨[], l, 0, ⟨rfl, rfl, rfl⟩, ⟨.refl _, hst⟩, blk_nil, rfl⟩
 rintro ⟨a, b, es⟩ hk
 obtain ⟨D, E, t, ⟨ha, hb, hD⟩, hm, hk, rfl⟩ : ∃ (D E : List Int) (t : Nat), (a = D.length ∧ b = a + 20 ∧ D.length = t * 20) ∧ Mid (keyR rs) l (D ++ E) ∧ Blk (keyR rs) 20 D ∧ es = (D ++ E).map e1 := hk
 (try dsimp only)
 have hml := hm.len
 rw [List.length_append] at hml
 by_cases hbn : b ≤ l.length
 · obtain ⟨A, S, rfl, hA, _, _⟩ := cut_at (E := E) (k := 20) (by omega)
   obtain ⟨RA, hRA⟩ := stb_ex hm.stA
   have hm2 := hm.part hRA
   have hRl := hRA.1.length_eq
   repeat' ((conv => whnf); first | (refine ⟨fun h => ?_, fun h => ?_⟩ <;> try (exfalso; first | omega | (revert h; decide) | exact h rfl)) | refine ⟨[0], _, ins_g, ⟨rs, D, A, S, RA⟩, insPre hm hrg hrs hlen hRA, ⟨⟨⟨rfl, rfl, rfl⟩, trivial⟩, rfl, rfl, rfl⟩, ⟨⟨rfl, rfl⟩, (show leV (I _) (I (D.length)) from leI (by first | omega | (simp; done) | (simp; omega))), (show leV (I _) (I (D.length + A.length)) from leI (by first | omega | (simp; done) | (simp; omega))), rfl, trivial⟩, .inr ⟨rfl, ⟨cln1 _, trivial⟩, trivial⟩, ⟨⟨⟨⟨rfl, rfl⟩, by first | (simp; done) | (simp; omega)⟩, trivial⟩, trivial⟩, ?_⟩ | (refine ⟨(_, _, _), ⟨?_, by (try dsimp only); omega⟩, [], ⟨⟨rfl, rfl⟩, ⟨rfl, rfl⟩, ⟨rfl, rfl⟩, ⟨rfl, rfl⟩, ⟨rfl, rfl⟩, ⟨rfl, rfl⟩, trivial⟩, ⟨⟨rfl, rfl, rfl⟩, trivial⟩, rfl, rfl, rfl⟩; (try dsimp only); exact ⟨D ++ RA, S, t + 1, ⟨by rw [List.length_append]; omega, by omega, blk_len hD (by omega)⟩, by rw [List.append_assoc]; exact hm2, blk_snoc (by omega) hD hk hRA.2, by simp⟩) | refine ⟨⟨by omega, by omega⟩, ?_⟩ | fail)
 · rw [show D ++ E = D ++ (E ++ []) by simp] at hm ⊢
   obtain ⟨RE, hRE⟩ := stb_ex hm.stA
   have hm2 := hm.part hRE
   have hRl := hRE.1.length_eq
   rw [List.append_nil] at hm2
   have hk2 := blk_snoc (by omega) hD hk hRE.2
   repeat' ((conv => whnf); first | (refine ⟨fun h => ?_, fun h => ?_⟩ <;> try (exfalso; first | omega | (revert h; decide) | exact h rfl)) | refine ⟨[0], _, ins_g, ⟨rs, D, E, [], RE⟩, insPre hm hrg hrs hlen hRE, ⟨⟨⟨rfl, rfl, rfl⟩, trivial⟩, rfl, rfl, rfl⟩, ⟨⟨rfl, rfl⟩, (show leV (I _) (I (D.length)) from leI (by first | omega | (simp; done) | (simp; omega))), (show leV (I _) (I (D.length + E.length)) from leI (by first | omega | (simp; done) | (simp; omega))), rfl, trivial⟩, .inr ⟨rfl, ⟨cln1 _, trivial⟩, trivial⟩, ⟨⟨⟨⟨rfl, rfl⟩, by first | (simp; done) | (simp; omega)⟩, trivial⟩, trivial⟩, ?_⟩ | fail)
   refine ⟨Int × (List (List CV)), fun xq => ⟨[(0, .osl 0), (1, I l.length), (2, .fn 49 [.rp [.sl 1 (rs.map e1)]]), (6, I xq.1)], [(0, .row 3 1 xq.2)], 1⟩, fun xq => ∃ (k : Nat) (cur : List Int), (xq.1 = k ∧ 20 ≤ k ∧ k ≤ 2000000) ∧ Mid (keyR rs) l cur ∧ Blk (keyR rs) k cur ∧ xq.2 = cur.map e1, fun xq => (l.length - xq.1).toNat, ⟨(20, _), ?_, [], ⟨⟨rfl, rfl⟩, ⟨rfl, rfl⟩, ⟨rfl, rfl⟩, ⟨rfl, rfl⟩, trivial⟩, ⟨⟨rfl, rfl, rfl⟩, trivial⟩, rfl, rfl, rfl⟩, ?_⟩
   · (try dsimp only); exact ⟨20, D ++ RE, ⟨rfl, by omega, by omega⟩, hm2, hk2, by simp⟩
   rintro ⟨kk, es⟩ hk
   obtain ⟨k, cur, ⟨rfl, hk0, hk9⟩, hm3, hk3, rfl⟩ : ∃ (k : Nat) (cur : List Int), (kk = k ∧ 20 ≤ k ∧ k ≤ 2000000) ∧ Mid (keyR rs) l cur ∧ Blk (keyR rs) k cur ∧ es = cur.map e1 := hk
   (try dsimp only)
   clear hk2 hm2 hm hk hD ha hb hml hbn hRl hRE
   by_cases hkn : k < l.length
   · repeat' ((conv => whnf); first | (refine ⟨fun h => ?_, fun h => ?_⟩ <;> try (exfalso; first | omega | (revert h; decide) | exact h rfl)) | refine ⟨⟨by omega, by omega⟩, ?_⟩ | fail)
     refine ⟨Int × Int × (List (List CV)), fun xq => ⟨[(0, .osl 0), (1, I l.length), (2, .fn 49 [.rp [.sl 1 (rs.map e1)]]), (6, I k), (7, I xq.1), (8, I xq.2.1)], [(0, .row 3 1 xq.2.2)], 1⟩, fun xq => ∃ (D E : List Int) (t : Nat), (xq.1 = D.length ∧ xq.2.1 = xq.1 + 2 * k ∧ D.length = t * (2 * k)) ∧ Mid (keyR rs) l (D ++ E) ∧ Blk (keyR rs) (2 * k) D ∧ Blk (keyR rs) k E ∧ xq.2.2 = (D ++ E).map e1, fun xq => (l.length - xq.1).toNat, ⟨(_, _, _), ?_, [], ⟨⟨rfl, rfl⟩, ⟨rfl, rfl⟩, ⟨rfl, rfl⟩, ⟨rfl, rfl⟩, ⟨rfl, rfl⟩, ⟨rfl, rfl⟩, trivial⟩, ⟨⟨rfl, rfl, rfl⟩, trivial⟩, rfl, rfl, rfl⟩, ?_⟩
     · (try dsimp only); exact ⟨[], cur, 0, ⟨rfl, by omega, by simp⟩, hm3, blk_nil, hk3, rfl⟩
     rintro ⟨a, b, es⟩ hk
     obtain ⟨D, E, t, ⟨ha, hb, hD⟩, hm, hk, hkE, rfl⟩ : ∃ (D E : List Int) (t : Nat), (a = D.length ∧ b = a + 2 * k ∧ D.length = t * (2 * k)) ∧ Mid (keyR rs) l (D ++ E) ∧ Blk (keyR rs) (2 * k) D ∧ Blk (keyR rs) k E ∧ es = (D ++ E).map e1 := hk
     (try dsimp only)
     have hml := hm.len
     rw [List.length_append] at hml
     by_cases hbn : b ≤ l.length
     · obtain ⟨A, E2, rfl, hA, hA1, hA2⟩ := cut_at (E := E) (k := k) (by omega)
       rw [List.length_append] at hml
       obtain ⟨B, S, rfl, hB, hB1, hB2⟩ := cut_at (E := E2) (k := k) (by omega)
       have hAs := blk_take hkE
       have hk4 := blk_drop (by omega) hkE
       rw [hA1] at hAs
       rw [hA2] at hk4
       have hBs := blk_take hk4
       have hkS := blk_drop (by omega) hk4
       rw [hB1] at hBs
       rw [hB2] at hkS
       rw [← List.append_assoc A] at hm
       obtain ⟨RA, hRA⟩ := stb_ex hm.stA
       have hm2 := hm.part hRA
       have hRl := hRA.1.length_eq
       rw [List.length_append] at hRl
       repeat' ((conv => whnf); first | (refine ⟨fun h => ?_, fun h => ?_⟩ <;> try (exfalso; first | omega | (revert h; decide) | exact h rfl)) | refine ⟨[0], _, (sym_g _), ⟨rs, D, A, B, S, RA⟩, symPre hm hrg hrs hlen hRA hAs hBs (by omega) (by omega), ⟨⟨⟨rfl, rfl, rfl⟩, trivial⟩, rfl, rfl, rfl⟩, ⟨⟨rfl, rfl⟩, (show leV (I _) (I (D.length)) from leI (by first | omega | (simp; done) | (simp; omega))), (show leV (I _) (I (D.length + A.length)) from leI (by first | omega | (simp; done) | (simp; omega))), (show leV (I _) (I (D.length + A.length + B.length)) from leI (by first | omega | (simp; done) | (simp; omega))), rfl, trivial⟩, .inr ⟨rfl, ⟨cln1 _, trivial⟩, trivial⟩, ⟨⟨⟨⟨rfl, rfl⟩, by first | (simp; done) | (simp; omega)⟩, trivial⟩, trivial⟩, ?_⟩ | (refine ⟨(_, _, _), ⟨?_, by (try dsimp only); omega⟩, [], ⟨⟨rfl, rfl⟩, ⟨rfl, rfl⟩, ⟨rfl, rfl⟩, ⟨rfl, rfl⟩, ⟨rfl, rfl⟩, ⟨rfl, rfl⟩, trivial⟩, ⟨⟨rfl, rfl, rfl⟩, trivial⟩, rfl, rfl, rfl⟩; (try dsimp only); exact ⟨D ++ RA, S, t + 1, ⟨by rw [List.length_append]; omega, by omega, blk_len hD (by omega)⟩, by rw [List.append_assoc]; exact hm2, blk_snoc (by omega) hD hk hRA.2, hkS, by simp⟩) | refine ⟨⟨by omega, by omega⟩, ?_⟩ | fail)
     · by_cases hmn : a + k < l.length
       · obtain ⟨A, B, rfl, hA, hA1, hA2⟩ := cut_at (E := E) (k := k) (by omega)
         rw [List.length_append] at hml
         have hAs := blk_take hkE
         have hk4 := blk_drop (by omega) hkE
         rw [hA1] at hAs
         rw [hA2] at hk4
         have hBs := blk_one hk4 (by omega)
         rw [show D ++ (A ++ B) = D ++ ((A ++ B) ++ []) by simp] at hm
         obtain ⟨RA, hRA⟩ := stb_ex hm.stA
         have hm2 := hm.part hRA
         have hRl := hRA.1.length_eq
         rw [List.length_append] at hRl
         rw [List.append_nil] at hm2
         have hb5 := blk_snoc (by omega) hD hk hRA.2
         repeat' ((conv => whnf); first | (refine ⟨fun h => ?_, fun h => ?_⟩ <;> try (exfalso; first | omega | (revert h; decide) | exact h rfl)) | refine ⟨[0], _, (sym_g _), ⟨rs, D, A, B, [], RA⟩, symPre hm hrg hrs hlen hRA hAs hBs (by omega) (by omega), ⟨⟨⟨rowE (by simp), rfl, rfl⟩, trivial⟩, rfl, rfl, rfl⟩, ⟨⟨rfl, rfl⟩, (show leV (I _) (I (D.length)) from leI (by first | omega | (simp; done) | (simp; omega))), (show leV (I _) (I (D.length + A.length)) from leI (by first | omega | (simp; done) | (simp; omega))), (show leV (I _) (I (D.length + A.length + B.length)) from leI (by first | omega | (simp; done) | (simp; omega))), rfl, trivial⟩, .inr ⟨rfl, ⟨cln1 _, trivial⟩, trivial⟩, ⟨⟨⟨⟨rfl, rfl⟩, by first | (simp; done) | (simp; omega)⟩, trivial⟩, trivial⟩, ?_⟩ | (refine ⟨(_, _), ⟨?_, by (try dsimp only); omega⟩, [], ⟨⟨rfl, rfl⟩, ⟨rfl, rfl⟩, ⟨rfl, rfl⟩, ⟨rfl, rfl⟩, trivial⟩, ⟨⟨rfl, rfl, rfl⟩, trivial⟩, rfl, rfl, rfl⟩; (try dsimp only); exact ⟨2 * k, D ++ RA, ⟨by omega, by omega, by omega⟩, hm2, hb5, by simp⟩) | refine ⟨⟨by omega, by omega⟩, ?_⟩ | fail)
       · have hEs := blk_one hkE (by omega)
         have hb5 := blk_snoc (by omega) hD hk hEs
         repeat' ((conv => whnf); first | (refine ⟨fun h => ?_, fun h => ?_⟩ <;> try (exfalso; first | omega | (revert h; decide) | exact h rfl)) | (refine ⟨(_, _), ⟨?_, by (try dsimp only); omega⟩, [], ⟨⟨rfl, rfl⟩, ⟨rfl, rfl⟩, ⟨rfl, rfl⟩, ⟨rfl, rfl⟩, trivial⟩, ⟨⟨rfl, rfl, rfl⟩, trivial⟩, rfl, rfl, rfl⟩; (try dsimp only); exact ⟨2 * k, D ++ E, ⟨by omega, by omega, by omega⟩, hm, hb5, rfl⟩) | refine ⟨⟨by omega, by omega⟩, ?_⟩ | fail)
   · have hfin := sorted_uniq ⟨hm3.perm, blk_one hk3 (by have := hm3.len; omega)⟩ hso
     subst hfin
     repeat' ((conv => whnf); first | (refine ⟨fun h => ?_, fun h => ?_⟩ <;> try (exfalso; first | omega | (revert h; decide) | exact h rfl)) | fail)
     exact ⟨[], rfl, rfl, ⟨⟨rfl, rfl⟩, trivial⟩, trivial⟩
theorem stab_g : HoldsG Tryz.prog 79 stabS := holdsG_of mix Tryz.func79 stabLow (fun _ => rfl) stabV
def sortIr : IFn := ⟨9, [], (zp [ zm 4 0, zm 5 0, zo 6 .len [5], zm 7 1, zo 8 (.callg 79) [4, 6, 7]])⟩
theorem sortLow : lowF Tryz.prog { gvs := [8] } Tryz.f48 = some sortIr := by kernel_rfl
theorem sortV : fnG Tryz.prog sortIr sortS := by
 intro ⟨rs, l, R⟩ hx
 show vc _ _ _ _ ⟨argEnv 0 [.osl 0, .fn 49 [.rp [.sl 1 (rs.map e1)]]], idxFrom 0 [.row 3 1 (l.map e1)], 1⟩
 conv => whnf
 refine ⟨[0], _, stab_g, ⟨rs, l, R⟩, hx, ⟨⟨⟨rfl, rfl, rfl⟩, trivial⟩, rfl, rfl, rfl⟩, ⟨⟨rfl, rfl⟩, (show leV (I _) (I l.length) from leI (by rw [List.length_map])), rfl, trivial⟩, .inr ⟨rfl, ⟨cln1 _, trivial⟩, trivial⟩, ⟨⟨⟨⟨rfl, rfl⟩, by (show (R.map e1).length = (l.map e1).length; rw [List.length_map, List.length_map]; exact hx.2.1.2.1.length_eq)⟩, trivial⟩, trivial⟩, ?_⟩
 conv => whnf
 exact ⟨[], rfl, rfl, ⟨⟨rfl, rfl⟩, trivial⟩, trivial⟩
theorem sort_g : HoldsG Tryz.prog 48 sortS := holdsG_of mix Tryz.func48 sortLow (fun _ => rfl) sortV
structure Share where
 o : Int
 a : Int
 deriving DecidableEq
def plusF (s n : Int) : Option Int := if 1099511627776 - s < n ∨ n < -1099511627776 - s then none else some (s + n)
def runO : Int → List Int → Option Int
 | s, [] => some s
 | s, x :: r => match plusF s x with
   | none => none
   | some t => runO t r
def optT : Option Int → SV
 | some v => .tup [.c (.int .i64 v), .c (.bool true)]
 | none => .tup [.c (.int .i64 0), .c (.bool false)]
def totT : Option Int → SV
 | some v => .tup [.c (.int .i64 v), .c (.int .i64 0)]
 | none => .tup [.c (.int .i64 0), .c (.int .i64 12)]
theorem plusF_bnd {s n t : Int} (h : plusF s n = some t) : -1099511627776 ≤ t ∧ t ≤ 1099511627776 := by
 unfold plusF at h
 split at h
 · cases h
 · cases h; omega
theorem runO_step {l : List Int} {k : Nat} {x s : Int} (h : l[k]? = some x) : runO s (l.drop k) = match plusF s x with
   | none => none
   | some t => runO t (l.drop (k + 1)) := by rw [drop_of h, runO]
theorem runO_end {l : List Int} {k : Nat} (h : ¬ k < l.length) (s : Int) : runO s (l.drop k) = some s := by rw [drop_end h]; rfl
abbrev encS (r : Share) : List CV := [.int .i64 r.o, .int .i64 r.a]
abbrev aS (r : Share) : SV := .agg ((encS r).map .c)
def plusIr : IFn := ⟨19, [.tmp 4, .tmp 5], (zq [ zl 4 .mov [zi 0], zl 5 .mov [zf]] (.seq (zq [ zm 6 1, zm 7 0, zl 8 (.bin .sub .i64 false) [zi 1099511627776, .tmp 7], zo 9 (.cmp .gtr) [6, 8], zm 10 9, zw 11 1 10 false, zw 12 0 10 false, zh 13 (.bin .sub .i64 false) [zi (-1099511627776), .tmp 12] 10 false, zg 14 (.cmp .lss) [11, 13] 10 false, zl 15 .pick [.tmp 10, zv, .tmp 14]] (.cond (.tmp 15) (zq [ zl 4 .mov [zi 0], zl 5 .mov [zf]] .ret) .skip)) (zq [ zm 16 0, zm 17 1, zo 18 (.bin .add .i64 false) [16, 17], zm 4 18, zl 5 .mov [zv]] .ret)))⟩
theorem plusLow : lowF Tryz.prog {} Tryz.f30 = some plusIr := by kernel_rfl
def plusS : Spec := spec (Int × Int) (fun p => [I p.1, I p.2]) (fun p => -1099511627776 ≤ p.1 ∧ p.1 ≤ 1099511627776) (fun p => optT (plusF p.1 p.2))
theorem plusV : fnV Tryz.prog plusIr plusS := by
 intro ⟨(s : Int), (n : Int)⟩ hx
 obtain ⟨h1, h2⟩ : -1099511627776 ≤ s ∧ s ≤ 1099511627776 := hx
 show vc _ _ _ _ ⟨argEnv 0 [I s, I n], [], 0⟩
 by_cases h : 1099511627776 - s < n ∨ n < -1099511627776 - s
 · have hf : plusF s n = none := if_pos h
   repeat' ((conv => whnf); first | (refine ⟨fun h => ?_, fun h => ?_⟩ <;> try (exfalso; first | omega | (revert h; decide) | exact h rfl)) | refine ⟨⟨by omega, by omega⟩, ?_⟩ | fail)
   all_goals (refine ⟨[], rfl, trivial, ?_⟩; show leR _ (optT (plusF s n)); rw [hf]; exact ⟨rfl, rfl, trivial⟩)
 · have hf : plusF s n = some (s + n) := if_neg h
   repeat' ((conv => whnf); first | (refine ⟨fun h => ?_, fun h => ?_⟩ <;> try (exfalso; first | omega | (revert h; decide) | exact h rfl)) | refine ⟨⟨by omega, by omega⟩, ?_⟩ | fail)
   all_goals (refine ⟨[], rfl, trivial, ?_⟩; show leR _ (optT (plusF s n)); rw [hf]; exact ⟨rfl, rfl, trivial⟩)
theorem plus_h : Holds Tryz.prog 30 plusS := holds_of mix Tryz.func30 plusLow (fun _ => rfl) plusV
def idwIr : IFn := ⟨4, [.tmp 2], (zq [ zl 2 .mov [zi 0]] (zq [ zm 3 0, zm 2 3] .ret))⟩
theorem idwLow : lowF Tryz.prog {} Tryz.f76 = some idwIr := by kernel_rfl
def idwS : Spec := spec Int (fun n => [I n]) (fun _ => True) (fun n => I n)
theorem idwV : fnV Tryz.prog idwIr idwS := by
 intro (n : Int) hx
 show vc _ _ _ _ ⟨argEnv 0 [I n], [], 0⟩
 conv => whnf
 exact ⟨[], rfl, trivial, rfl⟩
theorem idw_h : Holds Tryz.prog 76 idwS := holds_of mix Tryz.func76 idwLow (fun _ => rfl) idwV
def amtIr : IFn := ⟨5, [.tmp 2], (zq [ zo 1 .box [0], zl 2 .mov [zi 0]] (zq [ zo 3 (.faddr 1) [1], zo 4 (.load 1 false) [3], zm 2 4] .ret))⟩
theorem amtLow : lowF Tryz.prog {} Tryz.f29 = some amtIr := by kernel_rfl
def amtS : Spec := spec Share (fun x => [aS x]) (fun _ => True) (fun x => I x.a)
theorem amtV : fnV Tryz.prog amtIr amtS := by
 intro (x : Share) hx
 show vc _ _ _ _ ⟨argEnv 0 [aS x], [], 0⟩
 conv => whnf
 exact ⟨[], rfl, trivial, rfl⟩
theorem amt_h : Holds Tryz.prog 29 amtS := holds_of mix Tryz.func29 amtLow (fun _ => rfl) amtV
theorem cw : callable Tryz.prog 76 = true := by kernel_rfl
theorem ca : callable Tryz.prog 29 = true := by kernel_rfl
def runIIr : IFn := ⟨28, [.tmp 4, .tmp 5], (zq [ zl 4 .mov [zi 0], zl 5 .mov [zf]] (zq [ zl 6 .mov [zi 0], zl 7 .mov [zv]] (.seq (zq [ zm 10 0, zo 11 .len [10], zl 12 .mov [zi 0]] (.block 0 (.loop (zq [ zo 13 (.cmp .lss) [12, 11]] (.seq (.cond (.tmp 13) .skip (.exit 0)) (.seq (.block 1 (zq [ zo 14 (.idx 1) [10, 12], zo 15 (.load 1 false) [14], zm 9 15] (zq [ zm 17 6, zm 18 1, zm 19 9, zo 20 .callv [18, 19], zo 21 (.call 30) [17, 20], zm 16 21, zo 22 (.extract 0) [16], zo 23 (.extract 1) [16], zm 6 22, zm 7 23] (zq [ zm 24 7, zo 25 .not [24]] (.cond (.tmp 25) (zq [ zl 4 .mov [zi 0], zl 5 .mov [zf]] .ret) .skip)))))
 (zp [ zl 26 (.bin .add .i64 false) [.tmp 12, zi 1], zm 12 26]))))))) (zq [ zm 27 6, zm 4 27, zl 5 .mov [zv]] .ret))))⟩
theorem runILow : lowF Tryz.prog {} Tryz.f75 = some runIIr := by kernel_rfl
def runIS : Spec := spec (List Int) (fun l => [L 1 (l.map e1), .fn 76 []]) (fun l => l.length ≤ 1000000) (fun l => optT (runO 0 (l.map fun x : Int => x)))
theorem runIV : fnV Tryz.prog runIIr runIS := by
 intro (l : List Int) hx
 replace hx : l.length ≤ 1000000 := hx
 show vc _ _ _ _ ⟨argEnv 0 [L 1 (l.map e1), .fn 76 []], [], 0⟩
 have hl : (l.map e1).length = l.length := List.length_map ..
 conv => whnf
 refine ⟨Nat × Int, fun xq => ⟨[(0, L 1 (l.map e1)), (1, .fn 76 []), (6, I xq.2), (10, L 1 (l.map e1)), (11, I (l.map e1).length), (12, I xq.1)], [], 0⟩, fun xq => xq.1 ≤ l.length ∧ (-1099511627776 ≤ xq.2 ∧ xq.2 ≤ 1099511627776) ∧ runO xq.2 ((l.map fun x : Int => x).drop xq.1) = runO 0 (l.map fun x : Int => x), fun xq => l.length - xq.1, ⟨(0, 0), ?_, [], ⟨⟨rfl, rfl⟩, ⟨rfl, rfl⟩, ⟨rfl, rfl⟩, ⟨rfl, rfl⟩, ⟨rfl, rfl⟩, ⟨rfl, rfl⟩, trivial⟩, trivial, rfl, rfl, rfl⟩, ?_⟩
 · (try dsimp only); exact ⟨Nat.zero_le _, by omega, rfl⟩
 rintro ⟨k, s⟩ hk
 obtain ⟨hk, ⟨s1, s2⟩, hg⟩ : k ≤ l.length ∧ (-1099511627776 ≤ s ∧ s ≤ 1099511627776) ∧ runO s ((l.map fun x : Int => x).drop k) = runO 0 (l.map fun x : Int => x) := hk
 (try dsimp only)
 by_cases hkl : k < l.length
 · obtain ⟨x, hx⟩ := getElem_some hkl
   have hxv : (l.map fun x : Int => x)[k]? = some x := by rw [List.getElem?_map, hx]; rfl
   rw [runO_step hxv] at hg
   cases hp : plusF s x with
   | none =>
     rw [hp] at hg
     repeat' ((conv => whnf); first | (refine ⟨fun h => ?_, fun h => ?_⟩ <;> try (exfalso; first | omega | (revert h; decide) | exact h rfl)) | (refine ⟨by omega, fun r hrr => ?_⟩; obtain rfl := get_row hrr hx) | (refine ⟨cw, _, idw_h, x, trivial, leVs_of_eq rfl, .inr rfl, rfl, ?_⟩; show norm (I x) _) | (refine ⟨_, plus_h, (s, x), ⟨s1, s2⟩, leVs_of_eq rfl, .inl rfl, rfl, ?_⟩; show norm (optT (plusF s x)) _; rw [hp]) | fail)
     all_goals (refine ⟨[], rfl, trivial, ?_⟩; show leR _ (optT (runO 0 (l.map fun x : Int => x))); rw [← hg]; exact ⟨rfl, rfl, trivial⟩)
   | some t =>
     rw [hp] at hg
     have hb := plusF_bnd hp
     repeat' ((conv => whnf); first | (refine ⟨(k + 1, _), ⟨?_, by (try dsimp only); omega⟩, [], ⟨⟨rfl, rfl⟩, ⟨rfl, rfl⟩, ⟨rfl, rfl⟩, ⟨rfl, rfl⟩, ⟨rfl, rfl⟩, ⟨rfl, rfl⟩, trivial⟩, trivial, rfl, rfl, rfl⟩; (try dsimp only); exact ⟨by omega, hb, hg⟩) | (refine ⟨fun h => ?_, fun h => ?_⟩ <;> try (exfalso; first | omega | (revert h; decide) | exact h rfl)) | (refine ⟨by omega, fun r hrr => ?_⟩; obtain rfl := get_row hrr hx) | (refine ⟨cw, _, idw_h, x, trivial, leVs_of_eq rfl, .inr rfl, rfl, ?_⟩; show norm (I x) _) | (refine ⟨_, plus_h, (s, x), ⟨s1, s2⟩, leVs_of_eq rfl, .inl rfl, rfl, ?_⟩; show norm (optT (plusF s x)) _; rw [hp]) | refine ⟨⟨by omega, by omega⟩, ?_⟩ | fail)
 · rw [runO_end (by rw [List.length_map]; exact hkl)] at hg
   repeat' ((conv => whnf); first | (refine ⟨fun h => ?_, fun h => ?_⟩ <;> try (exfalso; first | omega | (revert h; decide) | exact h rfl)) | fail)
   all_goals (refine ⟨[], rfl, trivial, ?_⟩; show leR _ (optT (runO 0 (l.map fun x : Int => x))); rw [← hg]; exact ⟨rfl, rfl, trivial⟩)
theorem runI_h : Holds Tryz.prog 75 runIS := holds_of mix Tryz.func75 runILow (fun _ => rfl) runIV
def runSIr : IFn := ⟨28, [.tmp 4, .tmp 5], (zq [ zl 4 .mov [zi 0], zl 5 .mov [zf]] (zq [ zl 6 .mov [zi 0], zl 7 .mov [zv]] (.seq (zq [ zm 10 0, zo 11 .len [10], zl 12 .mov [zi 0]] (.block 0 (.loop (zq [ zo 13 (.cmp .lss) [12, 11]] (.seq (.cond (.tmp 13) .skip (.exit 0)) (.seq (.block 1 (zq [ zo 14 (.idx 2) [10, 12], zo 15 (.load 2 true) [14], zo 9 (.alloc [.int .i64 0, .int .i64 0]) [], zn (.store 2) [9, 15]] (zq [ zm 17 6, zm 18 1, zo 19 (.load 2 true) [9], zo 20 .callv [18, 19], zo 21 (.call 30) [17, 20], zm 16 21, zo 22 (.extract 0) [16], zo 23 (.extract 1) [16], zm 6 22, zm 7 23] (zq [ zm 24 7, zo 25 .not
 [24]] (.cond (.tmp 25) (zq [ zl 4 .mov [zi 0], zl 5 .mov [zf]] .ret) .skip))))) (zp [ zl 26 (.bin .add .i64 false) [.tmp 12, zi 1], zm 12 26]))))))) (zq [ zm 27 6, zm 4 27, zl 5 .mov [zv]] .ret))))⟩
theorem runSLow : lowF Tryz.prog {} Tryz.f28 = some runSIr := by kernel_rfl
def runSS : Spec := spec (List Share) (fun l => [L 2 (l.map encS), .fn 29 []]) (fun l => l.length ≤ 1000000) (fun l => optT (runO 0 (l.map fun x : Share => x.a)))
theorem runSV : fnV Tryz.prog runSIr runSS := by
 intro (l : List Share) hx
 replace hx : l.length ≤ 1000000 := hx
 show vc _ _ _ _ ⟨argEnv 0 [L 2 (l.map encS), .fn 29 []], [], 0⟩
 have hl : (l.map encS).length = l.length := List.length_map ..
 conv => whnf
 refine ⟨Nat × Int, fun xq => ⟨[(0, L 2 (l.map encS)), (1, .fn 29 []), (6, I xq.2), (10, L 2 (l.map encS)), (11, I (l.map encS).length), (12, I xq.1)], [], 0⟩, fun xq => xq.1 ≤ l.length ∧ (-1099511627776 ≤ xq.2 ∧ xq.2 ≤ 1099511627776) ∧ runO xq.2 ((l.map fun x : Share => x.a).drop xq.1) = runO 0 (l.map fun x : Share => x.a), fun xq => l.length - xq.1, ⟨(0, 0), ?_, [], ⟨⟨rfl, rfl⟩, ⟨rfl, rfl⟩, ⟨rfl, rfl⟩, ⟨rfl, rfl⟩, ⟨rfl, rfl⟩, ⟨rfl, rfl⟩, trivial⟩, trivial, rfl, rfl, rfl⟩, ?_⟩
 · (try dsimp only); exact ⟨Nat.zero_le _, by omega, rfl⟩
 rintro ⟨k, s⟩ hk
 obtain ⟨hk, ⟨s1, s2⟩, hg⟩ : k ≤ l.length ∧ (-1099511627776 ≤ s ∧ s ≤ 1099511627776) ∧ runO s ((l.map fun x : Share => x.a).drop k) = runO 0 (l.map fun x : Share => x.a) := hk
 (try dsimp only)
 by_cases hkl : k < l.length
 · obtain ⟨x, hx⟩ := getElem_some hkl
   have hxv : (l.map fun x : Share => x.a)[k]? = some x.a := by rw [List.getElem?_map, hx]; rfl
   rw [runO_step hxv] at hg
   cases hp : plusF s x.a with
   | none =>
     rw [hp] at hg
     repeat' ((conv => whnf); first | (refine ⟨fun h => ?_, fun h => ?_⟩ <;> try (exfalso; first | omega | (revert h; decide) | exact h rfl)) | (refine ⟨by omega, fun r hrr => ?_⟩; obtain rfl := get_row hrr hx) | (refine ⟨ca, _, amt_h, x, trivial, leVs_of_eq rfl, .inr rfl, rfl, ?_⟩; show norm (I x.a) _) | (refine ⟨_, plus_h, (s, x.a), ⟨s1, s2⟩, leVs_of_eq rfl, .inl rfl, rfl, ?_⟩; show norm (optT (plusF s x.a)) _; rw [hp]) | fail)
     all_goals (refine ⟨[], rfl, trivial, ?_⟩; show leR _ (optT (runO 0 (l.map fun x : Share => x.a))); rw [← hg]; exact ⟨rfl, rfl, trivial⟩)
   | some t =>
     rw [hp] at hg
     have hb := plusF_bnd hp
     repeat' ((conv => whnf); first | (refine ⟨(k + 1, _), ⟨?_, by (try dsimp only); omega⟩, [], ⟨⟨rfl, rfl⟩, ⟨rfl, rfl⟩, ⟨rfl, rfl⟩, ⟨rfl, rfl⟩, ⟨rfl, rfl⟩, ⟨rfl, rfl⟩, trivial⟩, trivial, rfl, rfl, rfl⟩; (try dsimp only); exact ⟨by omega, hb, hg⟩) | (refine ⟨fun h => ?_, fun h => ?_⟩ <;> try (exfalso; first | omega | (revert h; decide) | exact h rfl)) | (refine ⟨by omega, fun r hrr => ?_⟩; obtain rfl := get_row hrr hx) | (refine ⟨ca, _, amt_h, x, trivial, leVs_of_eq rfl, .inr rfl, rfl, ?_⟩; show norm (I x.a) _) | (refine ⟨_, plus_h, (s, x.a), ⟨s1, s2⟩, leVs_of_eq rfl, .inl rfl, rfl, ?_⟩; show norm (optT (plusF s x.a)) _; rw [hp]) | refine ⟨⟨by omega, by omega⟩, ?_⟩ | fail)
 · rw [runO_end (by rw [List.length_map]; exact hkl)] at hg
   repeat' ((conv => whnf); first | (refine ⟨fun h => ?_, fun h => ?_⟩ <;> try (exfalso; first | omega | (revert h; decide) | exact h rfl)) | fail)
   all_goals (refine ⟨[], rfl, trivial, ?_⟩; show leR _ (optT (runO 0 (l.map fun x : Share => x.a))); rw [← hg]; exact ⟨rfl, rfl, trivial⟩)
theorem runS_h : Holds Tryz.prog 28 runSS := holds_of mix Tryz.func28 runSLow (fun _ => rfl) runSV
end Go.Proofs.YtjpdaapjnpdiiaaGreat
namespace Go.Proofs.YtjpdaapjnpdiiaaGreat
theorem wrap_small {n : Int} (h0 : 0 ≤ n) (h1 : n < 9223372036854775808) : IntKind.wrap .i64 n = n := by
 show (if IntKind.signed .i64 && decide (2 ^ (IntKind.bits .i64 - 1) ≤ n % 2 ^ IntKind.bits .i64) then _ else _) = n
 have e : (2 : Int) ^ IntKind.bits .i64 = 18446744073709551616 := by decide
 have e2 : (2 : Int) ^ (IntKind.bits .i64 - 1) = 9223372036854775808 := by decide
 rw [e, e2]
 have : n % 18446744073709551616 = n := by omega
 rw [this]
 simp only [Bool.and_eq_true, decide_eq_true_eq]
 rw [if_neg (by omega)]
theorem wrap_u64 (n : Int) : IntKind.wrap .u64 n = n % 18446744073709551616 := by
 simp only [IntKind.wrap, IntKind.bits, IntKind.signed]
 simp
theorem shr32 (n : Int) : n.fdiv (2 ^ Nat.min ((32 : Int).toNat) (IntKind.bits .u64)) = n / 4294967296 := by
 rw [Int.fdiv_eq_ediv_of_nonneg _ (by decide)]
 rfl
theorem low32 (n : Int) : IntKind.wrap .u64 ((BitVec.ofInt (IntKind.bits .u64) n &&& BitVec.ofInt (IntKind.bits .u64) 4294967295).toNat) = n % 4294967296 := by
 rw [BitVec.toNat_and]
 have h1 : (BitVec.ofInt (IntKind.bits .u64) 4294967295).toNat = 2 ^ 32 - 1 := by decide
 have h2 : (BitVec.ofInt (IntKind.bits .u64) n).toNat = (n % 18446744073709551616).toNat := by
   rw [BitVec.toNat_ofInt]; rfl
 rw [h1, Nat.and_two_pow_sub_one_eq_mod, h2, wrap_u64]
 omega
abbrev U (n : Int) : SV := .c (.int .u64 n)
theorem mul_parts (a w : Int) : (a / 4294967296 * w + a % 4294967296 * w / 4294967296) = a * w / 4294967296 := by
 have h := Int.mul_ediv_add_emod a 4294967296
 have h2 : a * w = a % 4294967296 * w + 4294967296 * (a / 4294967296 * w) := by
   conv => lhs; rw [← h, Int.add_mul, Int.mul_assoc]
   rw [Int.add_comm]
 rw [h2, Int.add_mul_ediv_left _ _ (by decide)]
 omega
theorem two_div (n : Int) : n / 4294967296 / 4294967296 = n / 18446744073709551616 := by
 rw [Int.ediv_ediv_of_nonneg (by decide)]; rfl
def mulIr : IFn := ⟨51, [.tmp 4, .tmp 5], (zq [ zl 4 .mov [.const (.int .u64 0)], zl 5 .mov [.const (.int .u64 0)]] (zq [ zm 14 0, zl 15 (.bin .and .u64 false) [.tmp 14, .const (.int .u64 4294967295)], zm 6 15] (zq [ zm 16 0, zl 17 (.bin .shr .u64 false) [.tmp 16, .const (.int .u64 32)], zm 7 17] (zq [ zm 18 1, zl 19 (.bin .and .u64 false) [.tmp 18, .const (.int .u64 4294967295)], zm 8 19] (zq [ zm 20 1, zl 21 (.bin .shr .u64 false) [.tmp 20, .const (.int .u64 32)], zm 9 21] (zq [ zm 22 6, zm 23 8, zo 24 (.bin .mul .u64 false) [22, 23], zm 10 24] (zq [ zm 25 7, zm 26 8, zo 27 (.bin .mul .u64 false) [25, 26], zm
 28 10, zl 29 (.bin .shr .u64 false) [.tmp 28, .const (.int .u64 32)], zo 30 (.bin .add .u64 false) [27, 29], zm 11 30] (zq [ zm 31 11, zl 32 (.bin .and .u64 false) [.tmp 31, .const (.int .u64 4294967295)], zm 12 32] (zq [ zm 33 11, zl 34 (.bin .shr .u64 false) [.tmp 33, .const (.int .u64 32)], zm 13 34] (zq [ zm 35 12, zm 36 6, zm 37 9, zo 38 (.bin .mul .u64 false) [36, 37], zo 39 (.bin .add .u64 false) [35, 38], zm 12 39] (zq [ zm 40 7, zm 41 9, zo 42 (.bin .mul .u64 false) [40, 41], zm 43 13, zo 44 (.bin .add .u64 false) [42, 43], zm 45 12, zl 46 (.bin .shr .u64 false) [.tmp 45, .const (.int
 .u64 32)], zo 47 (.bin .add .u64 false) [44, 46], zm 4 47] (zq [ zm 48 0, zm 49 1, zo 50 (.bin .mul .u64 true) [48, 49], zm 5 50] .ret))))))))))))⟩
theorem mulLow : lowF Tryz.prog { wraps := [50] } Tryz.f77 = some mulIr := by kernel_rfl
def mulS : Spec := spec (Int × Int) (fun p => [U p.1, U p.2]) (fun p => (0 ≤ p.1 ∧ p.1 ≤ 1099511627776) ∧ 0 ≤ p.2 ∧ p.2 ≤ 1000000000) (fun p => .tup [U (p.1 * p.2 / 18446744073709551616), U (p.1 * p.2 % 18446744073709551616)])
theorem mulV : fnV Tryz.prog mulIr mulS := by
 intro ⟨(a : Int), (w : Int)⟩ hx
 obtain ⟨⟨a0, a1⟩, w0, w1⟩ : (0 ≤ a ∧ a ≤ 1099511627776) ∧ 0 ≤ w ∧ w ≤ 1000000000 := hx
 have la := low32 a
 have lw := low32 w
 have lw' : w % 4294967296 = w := by omega
 have hw' : w / 4294967296 = 0 := by omega
 rw [lw'] at lw
 have m0 : 0 ≤ a % 4294967296 * w := Int.mul_nonneg (by omega) w0
 have m1 : a % 4294967296 * w ≤ 4294967296 * w := Int.mul_le_mul_of_nonneg_right (by omega) w0
 have n0 : 0 ≤ a / 4294967296 * w := Int.mul_nonneg (by omega) w0
 have n1 : a / 4294967296 * w ≤ 4294967296 * w := Int.mul_le_mul_of_nonneg_right (by omega) w0
 have hp := mul_parts a w
 have hd := two_div (a * w)
 have lt := low32 (a * w / 4294967296)
 have hu := wrap_u64 (a * w)
 have p0 : 0 ≤ a * w := Int.mul_nonneg a0 w0
 show vc _ _ _ _ ⟨argEnv 0 [U a, U w], [], 0⟩
 repeat' ((conv => whnf); first | (rw [la]) | (rw [lw]) | (rw [lt]) | (rw [hu]) | (refine ⟨by decide, ?_⟩; rw [shr32, hw']) | (refine ⟨by decide, ?_⟩; rw [shr32, hd]) | (refine ⟨by decide, ?_⟩; rw [shr32]) | (refine ⟨inR_u64 (by omega) (by omega), ?_⟩; rw [hp]) | (refine ⟨inR_u64 (by omega) (by omega), ?_⟩) | fail)
 refine ⟨[], rfl, trivial, ⟨congrArg (CV.int .u64) ?_, rfl, trivial⟩⟩
 show _ = a * w / 18446744073709551616
 omega
theorem mul_h : Holds Tryz.prog 77 mulS := holds_of mix Tryz.func77 mulLow (fun _ => rfl) mulV
def okW (w : Int) : Prop := 0 ≤ w ∧ w ≤ 1000000000
instance (w : Int) : Decidable (okW w) := by unfold okW; infer_instance
def chkF (a : Int) (ws : List Int) : Int := if 64 < ws.length then 4 else if a < 0 ∨ 1099511627776 < a then 2 else if ∀ w ∈ ws, okW w then (if ws.sum = 0 then 1 else 0) else 2
def chkT (a : Int) (ws : List Int) : SV := .tup [.c (.int .i64 (if chkF a ws = 0 then ws.sum else 0)), .c (.int .i64 (chkF a ws))]
theorem sum_ok : ∀ {ws : List Int}, (∀ w ∈ ws, okW w) → 0 ≤ ws.sum ∧ ws.sum ≤ 1000000000 * ws.length
 | [], _ => by simp
 | w :: r, h => by
   obtain ⟨h1, h2⟩ := sum_ok (ws := r) fun x hx => h x (by simp [hx])
   have := h w (by simp)
   unfold okW at this
   simp only [List.sum_cons, List.length_cons]
   omega
theorem runO_ok : ∀ {ws : List Int} {s : Int}, (∀ w ∈ ws, okW w) → 0 ≤ s → s + 1000000000 * ws.length ≤ 1099511627776 → runO s ws = some (s + ws.sum)
 | [], s, _, _, _ => by simp [runO]
 | w :: r, s, h, h0, h1 => by
   have hw := h w (by simp)
   unfold okW at hw
   simp only [List.length_cons] at h1
   have hp : plusF s w = some (s + w) := if_neg (by omega)
   rw [runO, hp]
   simp only
   rw [runO_ok (fun x hx => h x (by simp [hx])) (by omega) (by omega), List.sum_cons, Int.add_assoc]
def checkIr : IFn := ⟨40, [.tmp 4, .tmp 5], (zq [ zl 4 .mov [zi 0], zl 5 .mov [zi 0]] (.seq (zq [ zm 10 1, zo 11 .len [10], zl 12 (.cmp .gtr) [.tmp 11, zi 64]] (.cond (.tmp 12) (zq [ zl 4 .mov [zi 0], zl 5 .mov [zi 4]] .ret) .skip)) (.seq (zq [ zm 13 0, zl 14 (.cmp .lss) [.tmp 13, zi 0], zm 15 14, zw 16 0 15 false, zh 17 (.cmp .gtr) [.tmp 16, zi 1099511627776] 15 false, zl 18 .pick [.tmp 15, zv, .tmp 17]] (.cond (.tmp 18) (zq [ zl 4 .mov [zi 0], zl 5 .mov [zi 2]] .ret) .skip)) (.seq (zq [ zm 19 1, zo 20 .len [19], zl 21 .mov [zi 0]] (.block 0 (.loop (zq [ zo 22 (.cmp .lss) [21, 20]] (.seq (.cond (.tmp 22) .skip
 (.exit 0)) (.seq (.block 1 (zq [ zo 23 (.idx 1) [19, 21], zo 24 (.load 1 false) [23], zm 7 24] (zq [ zm 25 7, zl 26 (.cmp .lss) [.tmp 25, zi 0], zm 27 26, zw 28 7 27 false, zh 29 (.cmp .gtr) [.tmp 28, zi 1000000000] 27 false, zl 30 .pick [.tmp 27, zv, .tmp 29]] (.cond (.tmp 30) (zq [ zl 4 .mov [zi 0], zl 5 .mov [zi 2]] .ret) .skip)))) (zp [ zl 31 (.bin .add .i64 false) [.tmp 21, zi 1], zm 21 31]))))))) (zq [ zm 33 1, zl 34 (.call 75) [.tmp 33, .func 76], zm 32 34, zo 35 (.extract 0) [32], zo 36 (.extract 1) [32], zm 8 35, zm 9 36] (.seq (zq [ zm 37 8, zl 38 (.cmp .eql) [.tmp 37, zi 0]] (.cond
 (.tmp 38) (zq [ zl 4 .mov [zi 0], zl 5 .mov [zi 1]] .ret) .skip)) (zq [ zm 39 8, zm 4 39, zl 5 .mov [zi 0]] .ret)))))))⟩
theorem checkLow : lowF Tryz.prog {} Tryz.f46 = some checkIr := by kernel_rfl
def checkS : Spec := spec (Int × List Int) (fun p => [I p.1, L 1 (p.2.map e1)]) (fun p => p.2.length ≤ 1000000) (fun p => chkT p.1 p.2)
theorem checkV : fnV Tryz.prog checkIr checkS := by
 intro ⟨(a : Int), (ws : List Int)⟩ hx
 replace hx : ws.length ≤ 1000000 := hx
 have hl : (ws.map e1).length = ws.length := List.length_map ..
 show vc _ _ _ _ ⟨argEnv 0 [I a, L 1 (ws.map e1)], [], 0⟩
 by_cases h8 : 64 < ws.length
 · have hc : chkF a ws = 4 := if_pos h8
   repeat' ((conv => whnf); first | (refine ⟨fun h => ?_, fun h => ?_⟩ <;> try (exfalso; first | omega | (revert h; decide) | exact h rfl)) | fail)
   all_goals (refine ⟨[], rfl, trivial, ?_⟩; show leR _ (chkT a ws); unfold chkT; rw [hc]; exact ⟨rfl, rfl, trivial⟩)
 by_cases ha : a < 0 ∨ 1099511627776 < a
 · have hc : chkF a ws = 2 := by unfold chkF; rw [if_neg h8, if_pos ha]
   repeat' ((conv => whnf); first | (refine ⟨fun h => ?_, fun h => ?_⟩ <;> try (exfalso; first | omega | (revert h; decide) | exact h rfl)) | fail)
   all_goals (refine ⟨[], rfl, trivial, ?_⟩; show leR _ (chkT a ws); unfold chkT; rw [hc]; exact ⟨rfl, rfl, trivial⟩)
 repeat' ((conv => whnf); first | (refine ⟨fun h => ?_, fun h => ?_⟩ <;> try (exfalso; first | omega | (revert h; decide) | exact h rfl)) | fail)
 refine ⟨Nat, fun xq => ⟨[(1, L 1 (ws.map e1)), (19, L 1 (ws.map e1)), (20, I (ws.map e1).length), (21, I xq)], [], 0⟩, fun xq => xq ≤ ws.length ∧ ∀ w ∈ ws.take xq, okW w, fun xq => ws.length - xq, ⟨0, ?_, [], ⟨⟨rfl, rfl⟩, ⟨rfl, rfl⟩, ⟨rfl, rfl⟩, ⟨rfl, rfl⟩, trivial⟩, trivial, rfl, rfl, rfl⟩, ?_⟩
 · (try dsimp only); exact ⟨Nat.zero_le _, by simp⟩
 rintro k hk
 obtain ⟨hk, hn⟩ : k ≤ ws.length ∧ ∀ w ∈ ws.take k, okW w := hk
 (try dsimp only)
 by_cases hkl : k < ws.length
 · obtain ⟨x, hx⟩ := getElem_some hkl
   by_cases hw : okW x
   · have hw' := hw
     unfold okW at hw'
     repeat' ((conv => whnf); first | (refine ⟨k + 1, ⟨?_, by (try dsimp only); omega⟩, [], ⟨⟨rfl, rfl⟩, ⟨rfl, rfl⟩, ⟨rfl, rfl⟩, ⟨rfl, rfl⟩, trivial⟩, trivial, rfl, rfl, rfl⟩; (try dsimp only); exact ⟨by omega, fun y hy => by rw [take_snoc ws k x hx] at hy; rcases List.mem_append.1 hy with h | h; exact hn y h; rw [List.mem_singleton] at h; subst h; exact hw⟩) | (refine ⟨fun h => ?_, fun h => ?_⟩ <;> try (exfalso; first | omega | (revert h; decide) | exact h rfl)) | (refine ⟨by omega, fun r hrr => ?_⟩; obtain rfl := get_row hrr hx) | refine ⟨⟨by omega, by omega⟩, ?_⟩ | fail)
   · have hw' := hw
     unfold okW at hw'
     have hc : chkF a ws = 2 := by unfold chkF; rw [if_neg h8, if_neg ha, if_neg fun h => hw (h x (List.mem_of_getElem? hx))]
     repeat' ((conv => whnf); first | (refine ⟨fun h => ?_, fun h => ?_⟩ <;> try (exfalso; first | omega | (revert h; decide) | exact h rfl)) | (refine ⟨by omega, fun r hrr => ?_⟩; obtain rfl := get_row hrr hx) | fail)
     all_goals (refine ⟨[], rfl, trivial, ?_⟩; show leR _ (chkT a ws); unfold chkT; rw [hc]; exact ⟨rfl, rfl, trivial⟩)
 · rw [take_end hkl] at hn
   obtain ⟨t0, t1⟩ := sum_ok hn
   have hr := runO_ok (s := 0) hn (by omega) (by omega)
   rw [Int.zero_add] at hr
   have hmi : (ws.map fun x : Int => x) = ws := List.map_id' ws
   by_cases h0 : ws.sum = 0
   · have hc : chkF a ws = 1 := by unfold chkF; rw [if_neg h8, if_neg ha, if_pos hn, if_pos h0]
     repeat' ((conv => whnf); first | (refine ⟨fun h => ?_, fun h => ?_⟩ <;> try (exfalso; first | omega | (revert h; decide) | exact h rfl)) | (refine ⟨_, runI_h, ws, hx, leVs_of_eq rfl, .inl rfl, rfl, ?_⟩; show norm (optT (runO 0 (ws.map fun x : Int => x))) _; rw [hmi, hr]) | fail)
     all_goals (refine ⟨[], rfl, trivial, ?_⟩; show leR _ (chkT a ws); unfold chkT; rw [hc]; exact ⟨rfl, rfl, trivial⟩)
   · have hc : chkF a ws = 0 := by unfold chkF; rw [if_neg h8, if_neg ha, if_pos hn, if_neg h0]
     repeat' ((conv => whnf); first | (refine ⟨fun h => ?_, fun h => ?_⟩ <;> try (exfalso; first | omega | (revert h; decide) | exact h rfl)) | (refine ⟨_, runI_h, ws, hx, leVs_of_eq rfl, .inl rfl, rfl, ?_⟩; show norm (optT (runO 0 (ws.map fun x : Int => x))) _; rw [hmi, hr]) | fail)
     all_goals (refine ⟨[], rfl, trivial, ?_⟩; show leR _ (chkT a ws); unfold chkT; rw [hc, if_pos rfl]; exact ⟨rfl, rfl, trivial⟩)
theorem check_h : Holds Tryz.prog 46 checkS := holds_of mix Tryz.func46 checkLow (fun _ => rfl) checkV
end Go.Proofs.YtjpdaapjnpdiiaaGreat
