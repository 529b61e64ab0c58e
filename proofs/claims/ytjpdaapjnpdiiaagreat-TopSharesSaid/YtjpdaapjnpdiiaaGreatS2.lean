/- A part of the proof. -/
import Derived.Test.YtjpdaapjnpdiiaaGreatS1
namespace Go.Proofs.YtjpdaapjnpdiiaaGreat
open Go.RowKit
def LoL (f : Int → Int) (B : List Int) (x : Int) (u : Nat) : Prop := u = 0 ∨ ∃ y, B[u - 1]? = some y ∧ f x < f y
def HiL (f : Int → Int) (B : List Int) (x : Int) (v : Nat) : Prop := v = B.length ∨ ∃ y, B[v]? = some y ∧ f y ≤ f x
def fnAt (P : Program) (f : IFn) (S : GSpec) (x : S.X) : Prop := vc P (S.ins x).length f.body (fun e s => match e with
   | .normal => finG f.res s (S.ins x).length (S.res x) (S.fin x) (S.obs x)
   | .exit _ => False
   | .ret => finG f.res s (S.ins x).length (S.res x) (S.fin x) (S.obs x)) ⟨argEnv 0 (S.args x), idxFrom 0 (S.ins x), (S.ins x).length⟩
theorem rowE {l l' : List Int} (h : l = l') : some (Ob.row 3 1 (l.map e1)) = some (Ob.row 3 1 (l'.map e1)) := by rw [h]
structure SymX where
 rs : List Int
 P : List Int
 A : List Int
 B : List Int
 S : List Int
 R : List Int
def symS (N : Nat) : GSpec := ⟨SymX, fun x => [.row 3 1 ((x.P ++ (x.A ++ (x.B ++ x.S))).map e1)], fun x => [.osl 0, I x.P.length, I (x.P.length + x.A.length), I (x.P.length + x.A.length + x.B.length), .fn 49 [.rp [.sl 1 (x.rs.map e1)]]],
 fun x => ((∀ y ∈ x.A ++ x.B, 0 ≤ y ∧ y < x.rs.length) ∧ x.rs.length ≤ 1000000) ∧ (x.A.Pairwise (bef (keyR x.rs)) ∧ x.B.Pairwise (bef (keyR x.rs)) ∧ (∀ y ∈ x.A, ∀ z ∈ x.B, stb (keyR x.rs) y z) ∧ SortedOf (keyR x.rs) (x.A ++ x.B) x.R) ∧ (0 < x.A.length ∧ 0 < x.B.length ∧ x.A.length + x.B.length ≤ N) ∧ (x.P ++ (x.A ++ (x.B ++ x.S))).length ≤ 1000000, fun _ => .tup [], fun x => [.row 3 1 ((x.P ++ (x.R ++ x.S)).map e1)], fun _ => []⟩
def symIr : IFn := ⟨220, [], (.seq (zq [ zm 25 2, zm 26 1, zo 27 (.bin .sub .i64 false) [25, 26], zl 28 (.cmp .eql) [.tmp 27, zi 1]] (.cond (.tmp 28) (zq [ zm 29 2, zm 10 29] (zq [ zm 30 3, zm 11 30] (.seq (.block 0 (.loop (.seq (zq [ zm 31 10, zm 32 11, zo 33 (.cmp .lss) [31, 32]] (.cond (.tmp 33) .skip (.exit 0))) (.block 1 (zq [ zm 34 10, zm 35 11, zo 36 (.bin .add .i64 false) [34, 35], zo 37 (.conv .u64) [36], zl 38 (.bin .shr .u64 false) [.tmp 37, .const (.int .u64 1)], zo 39 (.conv .i64) [38], zm 12 39] (.seq (.ops [ zm 40 4, zm 41 0, zm 42 12, zo 43 (.idx 1) [41, 42], zo 44 (.load 1 false) [43], zm 45 0,
 zm 46 1, zo 47 (.idx 1) [45, 46], zo 48 (.load 1 false) [47], zo 49 .callv [40, 44, 48], zl 50 (.cmp .lss) [.tmp 49, zi 0]] true) (.cond (.tmp 50) (zp [ zm 51 12, zl 52 (.bin .add .i64 false) [.tmp 51, zi 1], zm 10 52]) (zp [ zm 53 12, zm 11 53])))))))) (.seq (zq [ zm 54 1, zm 13 54] (.block 2 (.loop (.seq (zq [ zm 55 13, zm 56 10, zl 57 (.bin .sub .i64 false) [.tmp 56, zi 1], zo 58 (.cmp .lss) [55, 57]] (.cond (.tmp 58) .skip (.exit 2))) (.seq (.block 3 (.ops [ zm 61 0, zm 62 13, zm 63 0, zm 64 13, zl 65 (.bin .add .i64 false) [.tmp 64, zi 1], zm 66 0, zm 67 13, zl 68 (.bin .add .i64 false)
 [.tmp 67, zi 1], zo 69 (.idx 1) [66, 68], zo 70 (.load 1 false) [69], zm 71 0, zm 72 13, zo 73 (.idx 1) [71, 72], zo 74 (.load 1 false) [73], zo 75 (.idx 1) [61, 62], zn (.store 1) [75, 70], zo 76 (.idx 1) [63, 65], zn (.store 1) [76, 74]] true)) (zp [ zm 59 13, zl 60 (.bin .add .i64 false) [.tmp 59, zi 1], zm 13 60])))))) .ret)))) .skip)) (.seq (zq [ zm 77 3, zm 78 2, zo 79 (.bin .sub .i64 false) [77, 78], zl 80 (.cmp .eql) [.tmp 79, zi 1]] (.cond (.tmp 80) (zq [ zm 81 1, zm 14 81] (zq [ zm 82 2, zm 15 82] (.seq (.block 4 (.loop (.seq (zq [ zm 83 14, zm 84 15, zo 85 (.cmp .lss) [83, 84]]
 (.cond (.tmp 85) .skip (.exit 4))) (.block 5 (zq [ zm 86 14, zm 87 15, zo 88 (.bin .add .i64 false) [86, 87], zo 89 (.conv .u64) [88], zl 90 (.bin .shr .u64 false) [.tmp 89, .const (.int .u64 1)], zo 91 (.conv .i64) [90], zm 16 91] (.seq (.ops [ zm 92 4, zm 93 0, zm 94 2, zo 95 (.idx 1) [93, 94], zo 96 (.load 1 false) [95], zm 97 0, zm 98 16, zo 99 (.idx 1) [97, 98], zo 100 (.load 1 false) [99], zo 101 .callv [92, 96, 100], zl 102 (.cmp .lss) [.tmp 101, zi 0], zo 103 .not [102]] true) (.cond (.tmp 103) (zp [ zm 104 16, zl 105 (.bin .add .i64 false) [.tmp 104, zi 1], zm 14 105]) (zp [ zm 106 16,
 zm 15 106])))))))) (.seq (zq [ zm 107 2, zm 17 107] (.block 6 (.loop (.seq (zq [ zm 108 17, zm 109 14, zo 110 (.cmp .gtr) [108, 109]] (.cond (.tmp 110) .skip (.exit 6))) (.seq (.block 7 (.ops [ zm 113 0, zm 114 17, zm 115 0, zm 116 17, zl 117 (.bin .sub .i64 false) [.tmp 116, zi 1], zm 118 0, zm 119 17, zl 120 (.bin .sub .i64 false) [.tmp 119, zi 1], zo 121 (.idx 1) [118, 120], zo 122 (.load 1 false) [121], zm 123 0, zm 124 17, zo 125 (.idx 1) [123, 124], zo 126 (.load 1 false) [125], zo 127 (.idx 1) [113, 114], zn (.store 1) [127, 122], zo 128 (.idx 1) [115, 117], zn (.store 1) [128, 126]]
 true)) (zp [ zm 111 17, zl 112 (.bin .sub .i64 false) [.tmp 111, zi 1], zm 17 112])))))) .ret)))) .skip)) (zq [ zm 129 1, zm 130 3, zo 131 (.bin .add .i64 false) [129, 130], zo 132 (.conv .u64) [131], zl 133 (.bin .shr .u64 false) [.tmp 132, .const (.int .u64 1)], zo 134 (.conv .i64) [133], zm 18 134] (zq [ zm 135 18, zm 136 2, zo 137 (.bin .add .i64 false) [135, 136], zm 19 137] (zq [ zl 20 .mov [zi 0], zl 21 .mov [zi 0]] (.seq (zq [ zm 138 2, zm 139 18, zo 140 (.cmp .gtr) [138, 139]] (.cond (.tmp 140) (zq [ zm 141 19, zm 142 3, zo 143 (.bin .sub .i64 false) [141, 142], zm 20 143] (zp [ zm 144
 18, zm 21 144])) (zq [ zm 145 1, zm 20 145] (zp [ zm 146 2, zm 21 146])))) (zq [ zm 147 19, zl 148 (.bin .sub .i64 false) [.tmp 147, zi 1], zm 22 148] (.seq (.block 8 (.loop (.seq (zq [ zm 149 20, zm 150 21, zo 151 (.cmp .lss) [149, 150]] (.cond (.tmp 151) .skip (.exit 8))) (.block 9 (zq [ zm 152 20, zm 153 21, zo 154 (.bin .add .i64 false) [152, 153], zo 155 (.conv .u64) [154], zl 156 (.bin .shr .u64 false) [.tmp 155, .const (.int .u64 1)], zo 157 (.conv .i64) [156], zm 23 157] (.seq (.ops [ zm 158 4, zm 159 0, zm 160 22, zm 161 23, zo 162 (.bin .sub .i64 false) [160, 161], zo 163 (.idx 1)
 [159, 162], zo 164 (.load 1 false) [163], zm 165 0, zm 166 23, zo 167 (.idx 1) [165, 166], zo 168 (.load 1 false) [167], zo 169 .callv [158, 164, 168], zl 170 (.cmp .lss) [.tmp 169, zi 0], zo 171 .not [170]] true) (.cond (.tmp 171) (zp [ zm 172 23, zl 173 (.bin .add .i64 false) [.tmp 172, zi 1], zm 20 173]) (zp [ zm 174 23, zm 21 174])))))))) (zq [ zm 175 19, zm 176 20, zo 177 (.bin .sub .i64 false) [175, 176], zm 24 177] (.seq (zq [ zm 178 20, zm 179 2, zo 180 (.cmp .lss) [178, 179], zm 181 180, zw 182 2 181 true, zw 183 24 181 true, zg 184 (.cmp .lss) [182, 183] 181 true, zl 185 .pick [.tmp
 181, .tmp 184, zf]] (.cond (.tmp 185) (zp [ zm 186 0, zm 187 20, zm 188 2, zm 189 24, zm 190 4, zo 191 (.callg 122) [186, 187, 188, 189, 190]]) .skip)) (.seq (zq [ zm 192 1, zm 193 20, zo 194 (.cmp .lss) [192, 193], zm 195 194, zw 196 20 195 true, zw 197 18 195 true, zg 198 (.cmp .lss) [196, 197] 195 true, zl 199 .pick [.tmp 195, .tmp 198, zf]] (.cond (.tmp 199) (zp [ zm 200 0, zm 201 1, zm 202 20, zm 203 18, zm 204 4, zo 205 (.callg 97) [200, 201, 202, 203, 204]]) .skip)) (zq [ zm 206 18, zm 207 24, zo 208 (.cmp .lss) [206, 207], zm 209 208, zw 210 24 209 true, zw 211 3 209 true, zg 212 (.cmp
 .lss) [210, 211] 209 true, zl 213 .pick [.tmp 209, .tmp 212, zf]] (.cond (.tmp 213) (zp [ zm 214 0, zm 215 18, zm 216 24, zm 217 3, zm 218 4, zo 219 (.callg 97) [214, 215, 216, 217, 218]]) .skip)))))))))))))⟩
theorem symLow : lowF Tryz.prog { gvs := [191, 205, 219] } Tryz.f97 = some symIr := by kernel_rfl
set_option maxRecDepth 20000 in
theorem symV1 (N : Nat) (rs P : List Int) (x : Int) (B S R : List Int) (hp : (symS N).pre ⟨rs, P, [x], B, S, R⟩) : fnAt Tryz.prog symIr (symS N) ⟨rs, P, [x], B, S, R⟩ := by
 obtain ⟨⟨hrg, hrs⟩, ⟨_, hB, hs, hR⟩, ⟨_, hB0, hN⟩, hlen⟩ : ((∀ y ∈ [x] ++ B, 0 ≤ y ∧ y < rs.length) ∧ rs.length ≤ 1000000) ∧ ([x].Pairwise (bef (keyR rs)) ∧ B.Pairwise (bef (keyR rs)) ∧ (∀ y ∈ [x], ∀ z ∈ B, stb (keyR rs) y z) ∧ SortedOf (keyR rs) ([x] ++ B) R) ∧ (0 < [x].length ∧ 0 < B.length ∧ [x].length + B.length ≤ N) ∧ (P ++ ([x] ++ (B ++ S))).length ≤ 1000000 := hp
 have hx1 : ([x] : List Int).length = 1 := rfl
 have hxr : 0 ≤ x ∧ x < rs.length := hrg x (by simp)
 simp only [List.length_append, hx1] at hlen
 show vc _ _ _ _ ⟨argEnv 0 [.osl 0, I P.length, I (P.length + [x].length), I (P.length + [x].length + B.length), .fn 49 [.rp [.sl 1 (rs.map e1)]]], idxFrom 0 [.row 3 1 ((P ++ ([x] ++ (B ++ S))).map e1)], 1⟩
 have hl1 : (((P ++ ([x] ++ (B ++ S))).map e1).length : Int) = P.length + 1 + B.length + S.length := by simp only [List.length_map, List.length_append, hx1]; omega
 have ga : ((P ++ ([x] ++ (B ++ S))).map e1)[(P.length : Int).toNat]? = some [.int .i64 x] := get_e1 (by rw [Int.toNat_natCast]; exact get_mid _ _ _)
 conv => whnf
 refine ⟨⟨by omega, by omega⟩, ?_⟩
 conv => whnf
 refine ⟨fun _ => ?_, fun h => absurd (by rw [hx1]; omega) h⟩
 conv => whnf
 refine ⟨Int × Int, fun xq => ⟨[(0, .osl 0), (1, I P.length), (2, I (P.length + [x].length)), (3, I (P.length + [x].length + B.length)), (4, .fn 49 [.rp [.sl 1 (rs.map e1)]]), (10, I xq.1), (11, I xq.2)], [(0, .row 3 1 ((P ++ ([x] ++ (B ++ S))).map e1))], 1⟩, fun xq => ∃ u v : Nat, (xq.1 = P.length + 1 + u ∧ xq.2 = P.length + 1 + v ∧ u ≤ v ∧ v ≤ B.length) ∧ LoL (keyR rs) B x u ∧ HiL (keyR rs) B x v, fun xq => (xq.2 - xq.1).toNat, ⟨(_, _), ?_, [], ⟨⟨rfl, rfl⟩, ⟨rfl, rfl⟩, ⟨rfl, rfl⟩, ⟨rfl, rfl⟩, ⟨rfl, rfl⟩, ⟨rfl, rfl⟩, ⟨rfl, rfl⟩, trivial⟩, ⟨⟨rfl, rfl, rfl⟩, trivial⟩, rfl, rfl, rfl⟩, ?_⟩
 · (try dsimp only); exact ⟨0, B.length, ⟨by rw [hx1]; omega, by rw [hx1]; omega, by omega, by omega⟩, .inl rfl, .inl rfl⟩
 rintro ⟨i, j⟩ hk
 obtain ⟨u, v, ⟨hi, hj, huv, hvb⟩, hu, hv⟩ : ∃ u v : Nat, (i = P.length + 1 + u ∧ j = P.length + 1 + v ∧ u ≤ v ∧ v ≤ B.length) ∧ LoL (keyR rs) B x u ∧ HiL (keyR rs) B x v := hk
 (try dsimp only)
 by_cases hij : i < j
 · have hm : (i + j) / 2 = P.length + 1 + ((u + v) / 2 : Nat) := by omega
   obtain ⟨y, hy⟩ := getElem_some (show (u + v) / 2 < B.length by omega)
   have hyr : 0 ≤ y ∧ y < rs.length := hrg y (by simp [List.mem_of_getElem? hy])
   have gh : ((P ++ ([x] ++ (B ++ S))).map e1)[((i + j) / 2).toNat]? = some [.int .i64 y] := get_e1 (by
     rw [show ((i + j) / 2).toNat = P.length + 1 + (u + v) / 2 by omega, List.getElem?_append_right (by omega), List.getElem?_append_right (by rw [hx1]; omega), List.getElem?_append_left (by rw [hx1]; omega)]
     rw [← hy]; congr 1; rw [hx1]; omega)
   have hc := cmpI_lt (keyR rs x) (keyR rs y)
   by_cases hxy : keyR rs x < keyR rs y
   · repeat' ((conv => whnf); first | (refine ⟨fun h => ?_, fun h => ?_⟩ <;> try (exfalso; first | omega | (revert h; decide) | exact h rfl)) | (refine ⟨cl, _, less_h, (rs, y, x), ⟨⟨hyr, hxr⟩, hrs⟩, leVs_of_eq rfl, .inr rfl, rfl, ?_⟩; show norm (I (cmpI (keyR rs x) (keyR rs y))) _) | refine get_at gh ?_ | refine get_at ga ?_ | (refine ⟨(_, _), ⟨?_, by (try dsimp only); omega⟩, [], ⟨⟨rfl, rfl⟩, ⟨rfl, rfl⟩, ⟨rfl, rfl⟩, ⟨rfl, rfl⟩, ⟨rfl, rfl⟩, ⟨rfl, rfl⟩, ⟨rfl, rfl⟩, trivial⟩, ⟨⟨rfl, rfl, rfl⟩, trivial⟩, rfl, rfl, rfl⟩; (try dsimp only); exact ⟨(u + v) / 2 + 1, v, ⟨by omega, by omega, by omega, by omega⟩, .inr ⟨y, hy, hxy⟩, hv⟩) | refine ⟨inR_u64 (by omega) (by omega), ?_⟩ | (refine ⟨by decide, ?_⟩; rw [half]) | refine ⟨⟨by omega, by omega⟩, ?_⟩ | fail)
   · repeat' ((conv => whnf); first | (refine ⟨fun h => ?_, fun h => ?_⟩ <;> try (exfalso; first | omega | (revert h; decide) | exact h rfl)) | (refine ⟨cl, _, less_h, (rs, y, x), ⟨⟨hyr, hxr⟩, hrs⟩, leVs_of_eq rfl, .inr rfl, rfl, ?_⟩; show norm (I (cmpI (keyR rs x) (keyR rs y))) _) | refine get_at gh ?_ | refine get_at ga ?_ | (refine ⟨(_, _), ⟨?_, by (try dsimp only); omega⟩, [], ⟨⟨rfl, rfl⟩, ⟨rfl, rfl⟩, ⟨rfl, rfl⟩, ⟨rfl, rfl⟩, ⟨rfl, rfl⟩, ⟨rfl, rfl⟩, ⟨rfl, rfl⟩, trivial⟩, ⟨⟨rfl, rfl, rfl⟩, trivial⟩, rfl, rfl, rfl⟩; (try dsimp only); exact ⟨u, (u + v) / 2, ⟨by omega, by omega, by omega, by omega⟩, hu, .inr ⟨y, hy, by omega⟩⟩) | refine ⟨inR_u64 (by omega) (by omega), ?_⟩ | (refine ⟨by decide, ?_⟩; rw [half]) | refine ⟨⟨by omega, by omega⟩, ?_⟩ | fail)
 · have huv' : u = v := by omega
   subst huv'
   have hres := put_left hB (hs x (by simp)) hR hu hv
   obtain ⟨B1, B2, hBB, hb1, hb2, hbl⟩ : ∃ B1 B2 : List Int, B = B1 ++ B2 ∧ B.take u = B1 ∧ B.drop u = B2 ∧ B1.length = u := ⟨B.take u, B.drop u, (List.take_append_drop ..).symm, rfl, rfl, by rw [List.length_take]; omega⟩
   rw [hb1, hb2] at hres
   have hBl := congrArg List.length hBB
   rw [List.length_append] at hBl
   repeat' ((conv => whnf); first | (refine ⟨fun h => ?_, fun h => ?_⟩ <;> try (exfalso; first | omega | (revert h; decide) | exact h rfl)) | fail)
   refine ⟨Int × (List (List CV)), fun xq => ⟨[(0, .osl 0), (10, I i), (13, I xq.1)], [(0, .row 3 1 xq.2)], 1⟩, fun xq => ∃ C1 C2 : List Int, B1 = C1 ++ C2 ∧ xq.1 = P.length + C1.length ∧ xq.2 = (P ++ (C1 ++ (x :: (C2 ++ (B2 ++ S))))).map e1, fun xq => (i - xq.1).toNat, ⟨(_, _), ?_, [], ⟨⟨rfl, rfl⟩, ⟨rfl, rfl⟩, ⟨rfl, rfl⟩, trivial⟩, ⟨⟨rfl, rfl, rfl⟩, trivial⟩, rfl, rfl, rfl⟩, ?_⟩
   · (try dsimp only); exact ⟨[], B1, rfl, by simp, by rw [hBB]; simp⟩
   rintro ⟨k, es⟩ hk
   obtain ⟨C1, C2, hC, hk, rfl⟩ : ∃ C1 C2 : List Int, B1 = C1 ++ C2 ∧ k = P.length + C1.length ∧ es = (P ++ (C1 ++ (x :: (C2 ++ (B2 ++ S))))).map e1 := hk
   (try dsimp only)
   have hCl := congrArg List.length hC
   rw [List.length_append] at hCl
   by_cases hki : k < i - 1
   · obtain ⟨y, C3, rfl⟩ := first_of (l := C2) (by omega)
     have hes : P ++ (C1 ++ (x :: (y :: C3 ++ (B2 ++ S)))) = (P ++ C1) ++ x :: y :: (C3 ++ (B2 ++ S)) := by simp
     simp only [List.length_cons] at hCl
     have i1 : (k + 1).toNat = (P ++ C1).length + 1 := by rw [List.length_append]; omega
     have i2 : k.toNat = (P ++ C1).length := by rw [List.length_append]; omega
     have hl2 : ((((P ++ C1) ++ x :: y :: (C3 ++ (B2 ++ S))).map e1).length : Int) = P.length + 1 + B.length + S.length := by simp only [List.length_map, List.length_append, List.length_cons]; omega
     have g1 : (((P ++ C1) ++ x :: y :: (C3 ++ (B2 ++ S))).map e1)[(k + 1).toNat]? = some [.int .i64 y] := get_e1 (by rw [i1]; exact get_mid2 _ _ _ _)
     have g2 : (((P ++ C1) ++ x :: y :: (C3 ++ (B2 ++ S))).map e1)[k.toNat]? = some [.int .i64 x] := get_e1 (by rw [i2]; exact get_mid _ _ _)
     have g3 : ((((P ++ C1) ++ x :: y :: (C3 ++ (B2 ++ S))).map e1).set k.toNat [.int .i64 y])[(k + 1).toNat]? = some [.int .i64 y] := by rw [List.getElem?_set_ne (by omega)]; exact g1
     have g4 : ((((P ++ C1) ++ x :: y :: (C3 ++ (B2 ++ S))).map e1).set k.toNat [.int .i64 y]).set (k + 1).toNat [.int .i64 x] = (P ++ ((C1 ++ [y]) ++ (x :: (C3 ++ (B2 ++ S))))).map e1 := by
       rw [map_set1, map_set1, i1, i2, swap_mid']; simp
     rw [hes]
     generalize (((P ++ C1) ++ x :: y :: (C3 ++ (B2 ++ S))).map e1) = cur at *
     repeat' ((conv => whnf); first | (refine ⟨fun h => ?_, fun h => ?_⟩ <;> try (exfalso; first | omega | (revert h; decide) | exact h rfl)) | refine get_at g1 ?_ | refine get_at g2 ?_ | refine get_at g3 ?_ | (refine ⟨(_, _), ⟨?_, by (try dsimp only); omega⟩, [], ⟨⟨rfl, rfl⟩, ⟨rfl, rfl⟩, ⟨rfl, rfl⟩, trivial⟩, ⟨⟨rfl, rfl, rfl⟩, trivial⟩, rfl, rfl, rfl⟩; (try dsimp only); exact ⟨C1 ++ [y], C3, by rw [hC]; simp, by rw [List.length_append, List.length_singleton]; omega, g4⟩) | refine ⟨⟨by omega, by omega⟩, ?_⟩ | refine ⟨⟨by omega, by (rw [List.length_set]; omega)⟩, ?_⟩ | fail)
   · have hc2 : C2 = [] := List.eq_nil_of_length_eq_zero (by omega)
     subst hc2
     rw [List.append_nil] at hC
     subst hC
     repeat' ((conv => whnf); first | (refine ⟨fun h => ?_, fun h => ?_⟩ <;> try (exfalso; first | omega | (revert h; decide) | exact h rfl)) | refine ⟨⟨by omega, by omega⟩, ?_⟩ | fail)
     refine ⟨[], rfl, rfl, ⟨⟨?_, rfl⟩, trivial⟩, trivial⟩
     exact rowE (by show _ = P ++ (R ++ S); rw [hres]; simp)
def LoR (f : Int → Int) (B : List Int) (x : Int) (u : Nat) : Prop := u = 0 ∨ ∃ y, B[u - 1]? = some y ∧ f x ≤ f y
def HiR (f : Int → Int) (B : List Int) (x : Int) (v : Nat) : Prop := v = B.length ∨ ∃ y, B[v]? = some y ∧ f y < f x
set_option maxRecDepth 20000 in
theorem symV2 (N : Nat) (rs P : List Int) (x : Int) (A S R : List Int) (h2 : A.length ≠ 1) (hp : (symS N).pre ⟨rs, P, A, [x], S, R⟩) : fnAt Tryz.prog symIr (symS N) ⟨rs, P, A, [x], S, R⟩ := by
 obtain ⟨⟨hrg, hrs⟩, ⟨hA, _, hs, hR⟩, ⟨hA0, _, hN⟩, hlen⟩ : ((∀ y ∈ A ++ [x], 0 ≤ y ∧ y < rs.length) ∧ rs.length ≤ 1000000) ∧ (A.Pairwise (bef (keyR rs)) ∧ [x].Pairwise (bef (keyR rs)) ∧ (∀ y ∈ A, ∀ z ∈ [x], stb (keyR rs) y z) ∧ SortedOf (keyR rs) (A ++ [x]) R) ∧ (0 < A.length ∧ 0 < [x].length ∧ A.length + [x].length ≤ N) ∧ (P ++ (A ++ ([x] ++ S))).length ≤ 1000000 := hp
 have hx1 : ([x] : List Int).length = 1 := rfl
 have hxr : 0 ≤ x ∧ x < rs.length := hrg x (by simp)
 simp only [List.length_append, hx1] at hlen
 show vc _ _ _ _ ⟨argEnv 0 [.osl 0, I P.length, I (P.length + A.length), I (P.length + A.length + [x].length), .fn 49 [.rp [.sl 1 (rs.map e1)]]], idxFrom 0 [.row 3 1 ((P ++ (A ++ ([x] ++ S))).map e1)], 1⟩
 have hl1 : (((P ++ (A ++ ([x] ++ S))).map e1).length : Int) = P.length + A.length + 1 + S.length := by simp only [List.length_map, List.length_append, hx1]; omega
 have ga : ((P ++ (A ++ ([x] ++ S))).map e1)[((P.length : Int) + A.length).toNat]? = some [.int .i64 x] := get_e1 (by rw [show ((P.length : Int) + A.length).toNat = (P ++ A).length by rw [List.length_append]; omega, ← List.append_assoc]; exact get_mid _ _ _)
 conv => whnf
 refine ⟨⟨by omega, by omega⟩, ?_⟩
 conv => whnf
 refine ⟨fun h => absurd h (by omega), fun _ => ?_⟩
 conv => whnf
 refine ⟨⟨by omega, by omega⟩, ?_⟩
 conv => whnf
 (refine ⟨fun h => ?_, fun h => ?_⟩ <;> try (exfalso; first | omega | (revert h; decide) | exact h rfl))
 conv => whnf
 refine ⟨Int × Int, fun xq => ⟨[(0, .osl 0), (1, I P.length), (2, I (P.length + A.length)), (3, I (P.length + A.length + [x].length)), (4, .fn 49 [.rp [.sl 1 (rs.map e1)]]), (14, I xq.1), (15, I xq.2)], [(0, .row 3 1 ((P ++ (A ++ ([x] ++ S))).map e1))], 1⟩, fun xq => ∃ u v : Nat, (xq.1 = P.length + u ∧ xq.2 = P.length + v ∧ u ≤ v ∧ v ≤ A.length) ∧ LoR (keyR rs) A x u ∧ HiR (keyR rs) A x v, fun xq => (xq.2 - xq.1).toNat, ⟨(_, _), ?_, [], ⟨⟨rfl, rfl⟩, ⟨rfl, rfl⟩, ⟨rfl, rfl⟩, ⟨rfl, rfl⟩, ⟨rfl, rfl⟩, ⟨rfl, rfl⟩, ⟨rfl, rfl⟩, trivial⟩, ⟨⟨rfl, rfl, rfl⟩, trivial⟩, rfl, rfl, rfl⟩, ?_⟩
 · (try dsimp only); exact ⟨0, A.length, ⟨(Int.add_zero _).symm, rfl, by omega, by omega⟩, .inl rfl, .inl rfl⟩
 rintro ⟨i, j⟩ hk
 obtain ⟨u, v, ⟨hi, hj, huv, hvb⟩, hu, hv⟩ : ∃ u v : Nat, (i = P.length + u ∧ j = P.length + v ∧ u ≤ v ∧ v ≤ A.length) ∧ LoR (keyR rs) A x u ∧ HiR (keyR rs) A x v := hk
 (try dsimp only)
 by_cases hij : i < j
 · have hm : (i + j) / 2 = P.length + ((u + v) / 2 : Nat) := by omega
   obtain ⟨y, hy⟩ := getElem_some (show (u + v) / 2 < A.length by omega)
   have hyr : 0 ≤ y ∧ y < rs.length := hrg y (by simp [List.mem_of_getElem? hy])
   have gh : ((P ++ (A ++ ([x] ++ S))).map e1)[((i + j) / 2).toNat]? = some [.int .i64 y] := get_e1 (by
     rw [show ((i + j) / 2).toNat = P.length + (u + v) / 2 by omega, List.getElem?_append_right (by omega), List.getElem?_append_left (by omega)]
     rw [← hy]; congr 1; omega)
   have hc := cmpI_lt (keyR rs y) (keyR rs x)
   by_cases hxy : keyR rs y < keyR rs x
   · repeat' ((conv => whnf); first | (refine ⟨fun h => ?_, fun h => ?_⟩ <;> try (exfalso; first | omega | (revert h; decide) | exact h rfl)) | (refine ⟨cl, _, less_h, (rs, x, y), ⟨⟨hxr, hyr⟩, hrs⟩, leVs_of_eq rfl, .inr rfl, rfl, ?_⟩; show norm (I (cmpI (keyR rs y) (keyR rs x))) _) | refine get_at gh ?_ | refine get_at ga ?_ | (refine ⟨(_, _), ⟨?_, by (try dsimp only); omega⟩, [], ⟨⟨rfl, rfl⟩, ⟨rfl, rfl⟩, ⟨rfl, rfl⟩, ⟨rfl, rfl⟩, ⟨rfl, rfl⟩, ⟨rfl, rfl⟩, ⟨rfl, rfl⟩, trivial⟩, ⟨⟨rfl, rfl, rfl⟩, trivial⟩, rfl, rfl, rfl⟩; (try dsimp only); exact ⟨u, (u + v) / 2, ⟨by omega, by omega, by omega, by omega⟩, hu, .inr ⟨y, hy, hxy⟩⟩) | refine ⟨inR_u64 (by omega) (by omega), ?_⟩ | (refine ⟨by decide, ?_⟩; rw [half]) | refine ⟨⟨by omega, by omega⟩, ?_⟩ | fail)
   · repeat' ((conv => whnf); first | (refine ⟨fun h => ?_, fun h => ?_⟩ <;> try (exfalso; first | omega | (revert h; decide) | exact h rfl)) | (refine ⟨cl, _, less_h, (rs, x, y), ⟨⟨hxr, hyr⟩, hrs⟩, leVs_of_eq rfl, .inr rfl, rfl, ?_⟩; show norm (I (cmpI (keyR rs y) (keyR rs x))) _) | refine get_at gh ?_ | refine get_at ga ?_ | (refine ⟨(_, _), ⟨?_, by (try dsimp only); omega⟩, [], ⟨⟨rfl, rfl⟩, ⟨rfl, rfl⟩, ⟨rfl, rfl⟩, ⟨rfl, rfl⟩, ⟨rfl, rfl⟩, ⟨rfl, rfl⟩, ⟨rfl, rfl⟩, trivial⟩, ⟨⟨rfl, rfl, rfl⟩, trivial⟩, rfl, rfl, rfl⟩; (try dsimp only); exact ⟨(u + v) / 2 + 1, v, ⟨by omega, by omega, by omega, by omega⟩, .inr ⟨y, hy, by omega⟩, hv⟩) | refine ⟨inR_u64 (by omega) (by omega), ?_⟩ | (refine ⟨by decide, ?_⟩; rw [half]) | refine ⟨⟨by omega, by omega⟩, ?_⟩ | fail)
 · have huv' : u = v := by omega
   subst huv'
   have hres := put_right hA (fun y hy => hs y hy x (by simp)) hR hu hv
   obtain ⟨A1, A2, hAA, ha1, ha2, hal⟩ : ∃ A1 A2 : List Int, A = A1 ++ A2 ∧ A.take u = A1 ∧ A.drop u = A2 ∧ A1.length = u := ⟨A.take u, A.drop u, (List.take_append_drop ..).symm, rfl, rfl, by rw [List.length_take]; omega⟩
   rw [ha1, ha2] at hres
   have hAl := congrArg List.length hAA
   rw [List.length_append] at hAl
   repeat' ((conv => whnf); first | (refine ⟨fun h => ?_, fun h => ?_⟩ <;> try (exfalso; first | omega | (revert h; decide) | exact h rfl)) | fail)
   refine ⟨Int × (List (List CV)), fun xq => ⟨[(0, .osl 0), (14, I i), (17, I xq.1)], [(0, .row 3 1 xq.2)], 1⟩, fun xq => ∃ C1 C2 : List Int, A2 = C1 ++ C2 ∧ xq.1 = P.length + A1.length + C1.length ∧ xq.2 = (P ++ (A1 ++ (C1 ++ (x :: (C2 ++ S))))).map e1, fun xq => xq.1.toNat, ⟨(_, _), ?_, [], ⟨⟨rfl, rfl⟩, ⟨rfl, rfl⟩, ⟨rfl, rfl⟩, trivial⟩, ⟨⟨rfl, rfl, rfl⟩, trivial⟩, rfl, rfl, rfl⟩, ?_⟩
   · (try dsimp only); exact ⟨A2, [], by simp, by omega, by rw [hAA]; simp⟩
   rintro ⟨k, es⟩ hk
   obtain ⟨C1, C2, hC, hk, rfl⟩ : ∃ C1 C2 : List Int, A2 = C1 ++ C2 ∧ k = P.length + A1.length + C1.length ∧ es = (P ++ (A1 ++ (C1 ++ (x :: (C2 ++ S))))).map e1 := hk
   (try dsimp only)
   have hCl := congrArg List.length hC
   rw [List.length_append] at hCl
   by_cases hki : i < k
   · obtain ⟨C3, y, rfl⟩ := last_of (l := C1) (by omega)
     have hes : P ++ (A1 ++ (C3 ++ [y] ++ (x :: (C2 ++ S)))) = (P ++ (A1 ++ C3)) ++ y :: x :: (C2 ++ S) := by simp
     rw [List.length_append, List.length_singleton] at hCl hk
     have i1 : k.toNat = (P ++ (A1 ++ C3)).length + 1 := by simp only [List.length_append]; omega
     have i2 : (k - 1).toNat = (P ++ (A1 ++ C3)).length := by simp only [List.length_append]; omega
     have hl2 : ((((P ++ (A1 ++ C3)) ++ y :: x :: (C2 ++ S)).map e1).length : Int) = P.length + A.length + 1 + S.length := by simp only [List.length_map, List.length_append, List.length_cons]; omega
     have g1 : (((P ++ (A1 ++ C3)) ++ y :: x :: (C2 ++ S)).map e1)[k.toNat]? = some [.int .i64 x] := get_e1 (by rw [i1]; exact get_mid2 _ _ _ _)
     have g2 : (((P ++ (A1 ++ C3)) ++ y :: x :: (C2 ++ S)).map e1)[(k - 1).toNat]? = some [.int .i64 y] := get_e1 (by rw [i2]; exact get_mid _ _ _)
     have g3 : ((((P ++ (A1 ++ C3)) ++ y :: x :: (C2 ++ S)).map e1).set k.toNat [.int .i64 y])[(k - 1).toNat]? = some [.int .i64 y] := by rw [List.getElem?_set_ne (by omega)]; exact g2
     have g4 : ((((P ++ (A1 ++ C3)) ++ y :: x :: (C2 ++ S)).map e1).set k.toNat [.int .i64 y]).set (k - 1).toNat [.int .i64 x] = (P ++ (A1 ++ (C3 ++ (x :: ((y :: C2) ++ S))))).map e1 := by
       rw [map_set1, map_set1, i1, i2, swap_mid]; simp
     rw [hes]
     generalize (((P ++ (A1 ++ C3)) ++ y :: x :: (C2 ++ S)).map e1) = cur at *
     repeat' ((conv => whnf); first | (refine ⟨fun h => ?_, fun h => ?_⟩ <;> try (exfalso; first | omega | (revert h; decide) | exact h rfl)) | refine get_at g1 ?_ | refine get_at g2 ?_ | refine get_at g3 ?_ | (refine ⟨(_, _), ⟨?_, by (try dsimp only); omega⟩, [], ⟨⟨rfl, rfl⟩, ⟨rfl, rfl⟩, ⟨rfl, rfl⟩, trivial⟩, ⟨⟨rfl, rfl, rfl⟩, trivial⟩, rfl, rfl, rfl⟩; (try dsimp only); exact ⟨C3, y :: C2, by rw [hC]; simp, by omega, g4⟩) | refine ⟨⟨by omega, by omega⟩, ?_⟩ | refine ⟨⟨by omega, by (rw [List.length_set]; omega)⟩, ?_⟩ | fail)
   · have hc1 : C1 = [] := List.eq_nil_of_length_eq_zero (by omega)
     subst hc1
     rw [List.nil_append] at hC
     subst hC
     repeat' ((conv => whnf); first | (refine ⟨fun h => ?_, fun h => ?_⟩ <;> try (exfalso; first | omega | (revert h; decide) | exact h rfl)) | refine ⟨⟨by omega, by omega⟩, ?_⟩ | fail)
     refine ⟨[], rfl, rfl, ⟨⟨?_, rfl⟩, trivial⟩, trivial⟩
     exact rowE (by show _ = P ++ (R ++ S); rw [hres]; simp)
def LoG (f : Int → Int) (A B : List Int) (q u : Nat) : Prop := u = q - B.length ∨ ∃ y z, A[u - 1]? = some z ∧ B[q - u]? = some y ∧ f y ≤ f z
def HiG (f : Int → Int) (A B : List Int) (q u : Nat) : Prop := u = min q A.length ∨ ∃ y z, A[u]? = some z ∧ B[q - u - 1]? = some y ∧ f z < f y
set_option maxHeartbeats 4000000 in
set_option maxRecDepth 20000 in
theorem symV3 (N : Nat) (rs P A B S R : List Int) (h2 : A.length ≠ 1) (h3 : B.length ≠ 1) (hrec : HoldsG Tryz.prog 97 (symS (A.length + B.length - 1))) (hp : (symS N).pre ⟨rs, P, A, B, S, R⟩) : fnAt Tryz.prog symIr (symS N) ⟨rs, P, A, B, S, R⟩ := by
 obtain ⟨⟨hrg, hrs⟩, ⟨hA, hB, hs, hR⟩, ⟨hA0, hB0, hN⟩, hlen⟩ : ((∀ y ∈ A ++ B, 0 ≤ y ∧ y < rs.length) ∧ rs.length ≤ 1000000) ∧ (A.Pairwise (bef (keyR rs)) ∧ B.Pairwise (bef (keyR rs)) ∧ (∀ y ∈ A, ∀ z ∈ B, stb (keyR rs) y z) ∧ SortedOf (keyR rs) (A ++ B) R) ∧ (0 < A.length ∧ 0 < B.length ∧ A.length + B.length ≤ N) ∧ (P ++ (A ++ (B ++ S))).length ≤ 1000000 := hp
 simp only [List.length_append] at hlen
 show vc _ _ _ _ ⟨argEnv 0 [.osl 0, I P.length, I (P.length + A.length), I (P.length + A.length + B.length), .fn 49 [.rp [.sl 1 (rs.map e1)]]], idxFrom 0 [.row 3 1 ((P ++ (A ++ (B ++ S))).map e1)], 1⟩
 have hl1 : (((P ++ (A ++ (B ++ S))).map e1).length : Int) = P.length + A.length + B.length + S.length := by simp only [List.length_map, List.length_append]; omega
 obtain ⟨q, hq⟩ : ∃ q : Nat, q = (A.length + B.length) / 2 := ⟨_, rfl⟩
 have hmid : ((P.length : Int) + (P.length + A.length + B.length)) / 2 = P.length + q := by omega
 repeat' ((conv => whnf); first | (refine ⟨fun h => ?_, fun h => ?_⟩ <;> try (exfalso; first | omega | (revert h; decide) | exact h rfl)) | refine ⟨inR_u64 (by omega) (by omega), ?_⟩ | (refine ⟨by decide, ?_⟩; rw [half, hmid]) | refine ⟨⟨by omega, by omega⟩, ?_⟩ | fail)
 all_goals
   refine ⟨Int × Int, fun xq => ⟨[(0, .osl 0), (1, I P.length), (2, I (P.length + A.length)), (3, I (P.length + A.length + B.length)), (4, .fn 49 [.rp [.sl 1 (rs.map e1)]]), (18, I (P.length + q)), (19, I (P.length + q + (P.length + A.length))), (20, I xq.1), (21, I xq.2), (22, I (P.length + q + (P.length + A.length) - 1))], [(0, .row 3 1 ((P ++ (A ++ (B ++ S))).map e1))], 1⟩, fun xq => ∃ u v : Nat, (xq.1 = P.length + u ∧ xq.2 = P.length + v ∧ u ≤ v ∧ v ≤ min q A.length ∧ q - B.length ≤ u) ∧ LoG (keyR rs) A B q u ∧ HiG (keyR rs) A B q v, fun xq => (xq.2 - xq.1).toNat, ⟨(_, _), ?_, [], ⟨⟨rfl, rfl⟩, ⟨rfl, rfl⟩, ⟨rfl, rfl⟩, ⟨rfl, rfl⟩, ⟨rfl, rfl⟩, ⟨rfl, rfl⟩, ⟨rfl, rfl⟩, ⟨rfl, rfl⟩, ⟨rfl, rfl⟩, ⟨rfl, rfl⟩, trivial⟩, ⟨⟨rfl, rfl, rfl⟩, trivial⟩, rfl, rfl, rfl⟩, ?_⟩
   · (try dsimp only); exact ⟨q - B.length, min q A.length, ⟨by first | omega | (rw [show q - B.length = 0 by omega]; exact (Int.add_zero _).symm), by first | omega | (rw [show min q A.length = A.length by omega]; rfl) | (rw [show min q A.length = q by omega]; rfl), by omega, by omega, by omega⟩, .inl rfl, .inl rfl⟩
   rintro ⟨i, j⟩ hk
   obtain ⟨u, v, ⟨hi, hj, huv, hvb, hlo⟩, hu, hv⟩ : ∃ u v : Nat, (i = P.length + u ∧ j = P.length + v ∧ u ≤ v ∧ v ≤ min q A.length ∧ q - B.length ≤ u) ∧ LoG (keyR rs) A B q u ∧ HiG (keyR rs) A B q v := hk
   (try dsimp only)
   by_cases hij : i < j
   · have hm : (i + j) / 2 = P.length + ((u + v) / 2 : Nat) := by omega
     obtain ⟨x, hx⟩ := getElem_some (show (u + v) / 2 < A.length by omega)
     obtain ⟨y, hy⟩ := getElem_some (show q - (u + v) / 2 - 1 < B.length by omega)
     have hxr : 0 ≤ x ∧ x < rs.length := hrg x (by simp [List.mem_of_getElem? hx])
     have hyr : 0 ≤ y ∧ y < rs.length := hrg y (by simp [List.mem_of_getElem? hy])
     have gh : ((P ++ (A ++ (B ++ S))).map e1)[((i + j) / 2).toNat]? = some [.int .i64 x] := get_e1 (by
       rw [show ((i + j) / 2).toNat = P.length + (u + v) / 2 by omega, List.getElem?_append_right (by omega), List.getElem?_append_left (by omega)]
       rw [← hx]; congr 1; omega)
     have ga : ((P ++ (A ++ (B ++ S))).map e1)[((P.length : Int) + q + (P.length + A.length) - 1 - (i + j) / 2).toNat]? = some [.int .i64 y] := get_e1 (by
       rw [show ((P.length : Int) + q + (P.length + A.length) - 1 - (i + j) / 2).toNat = P.length + A.length + (q - (u + v) / 2 - 1) by omega, List.getElem?_append_right (by omega), List.getElem?_append_right (by omega), List.getElem?_append_left (by omega)]
       rw [← hy]; congr 1; omega)
     have hy' : B[q - ((u + v) / 2 + 1)]? = some y := by rw [show q - ((u + v) / 2 + 1) = q - (u + v) / 2 - 1 by omega]; exact hy
     have hc := cmpI_lt (keyR rs x) (keyR rs y)
     by_cases hxy : keyR rs x < keyR rs y
     · repeat' ((conv => whnf); first | (refine ⟨fun h => ?_, fun h => ?_⟩ <;> try (exfalso; first | omega | (revert h; decide) | exact h rfl)) | (refine ⟨cl, _, less_h, (rs, y, x), ⟨⟨hyr, hxr⟩, hrs⟩, leVs_of_eq rfl, .inr rfl, rfl, ?_⟩; show norm (I (cmpI (keyR rs x) (keyR rs y))) _) | refine get_at gh ?_ | refine get_at ga ?_ | (refine ⟨(_, _), ⟨?_, by (try dsimp only); omega⟩, [], ⟨⟨rfl, rfl⟩, ⟨rfl, rfl⟩, ⟨rfl, rfl⟩, ⟨rfl, rfl⟩, ⟨rfl, rfl⟩, ⟨rfl, rfl⟩, ⟨rfl, rfl⟩, ⟨rfl, rfl⟩, ⟨rfl, rfl⟩, ⟨rfl, rfl⟩, trivial⟩, ⟨⟨rfl, rfl, rfl⟩, trivial⟩, rfl, rfl, rfl⟩; (try dsimp only); exact ⟨u, (u + v) / 2, ⟨by omega, by omega, by omega, by omega, by omega⟩, hu, .inr ⟨y, x, hx, hy, hxy⟩⟩) | refine ⟨inR_u64 (by omega) (by omega), ?_⟩ | (refine ⟨by decide, ?_⟩; rw [half]) | refine ⟨⟨by omega, by omega⟩, ?_⟩ | fail)
     · repeat' ((conv => whnf); first | (refine ⟨fun h => ?_, fun h => ?_⟩ <;> try (exfalso; first | omega | (revert h; decide) | exact h rfl)) | (refine ⟨cl, _, less_h, (rs, y, x), ⟨⟨hyr, hxr⟩, hrs⟩, leVs_of_eq rfl, .inr rfl, rfl, ?_⟩; show norm (I (cmpI (keyR rs x) (keyR rs y))) _) | refine get_at gh ?_ | refine get_at ga ?_ | (refine ⟨(_, _), ⟨?_, by (try dsimp only); omega⟩, [], ⟨⟨rfl, rfl⟩, ⟨rfl, rfl⟩, ⟨rfl, rfl⟩, ⟨rfl, rfl⟩, ⟨rfl, rfl⟩, ⟨rfl, rfl⟩, ⟨rfl, rfl⟩, ⟨rfl, rfl⟩, ⟨rfl, rfl⟩, ⟨rfl, rfl⟩, trivial⟩, ⟨⟨rfl, rfl, rfl⟩, trivial⟩, rfl, rfl, rfl⟩; (try dsimp only); exact ⟨(u + v) / 2 + 1, v, ⟨by omega, by omega, by omega, by omega, by omega⟩, .inr ⟨y, x, hx, hy', by omega⟩, hv⟩) | refine ⟨inR_u64 (by omega) (by omega), ?_⟩ | (refine ⟨by decide, ?_⟩; rw [half]) | refine ⟨⟨by omega, by omega⟩, ?_⟩ | fail)
   · have huv' : u = v := by omega
     subst huv'
     have hah := cut_ahead hA hB hs hlo hvb hu hv
     obtain ⟨A1, A2, hAA, ha1, ha2, hal⟩ : ∃ A1 A2 : List Int, A = A1 ++ A2 ∧ A.take u = A1 ∧ A.drop u = A2 ∧ A1.length = u := ⟨A.take u, A.drop u, (List.take_append_drop ..).symm, rfl, rfl, by rw [List.length_take]; omega⟩
     obtain ⟨B1, B2, hBB, hb1, hb2, hbl⟩ : ∃ B1 B2 : List Int, B = B1 ++ B2 ∧ B.take (q - u) = B1 ∧ B.drop (q - u) = B2 ∧ B1.length = q - u := ⟨B.take (q - u), B.drop (q - u), (List.take_append_drop ..).symm, rfl, rfl, by rw [List.length_take]; omega⟩
     rw [ha1, ha2, hb1, hb2] at hah
     have hAl := congrArg List.length hAA
     have hBl := congrArg List.length hBB
     rw [List.length_append] at hAl hBl
     have hst : (A ++ B).Nodup := stb_nodup (f := keyR rs) (List.pairwise_append.2 ⟨hA.imp bef_stb, hB.imp bef_stb, hs⟩)
     rw [hAA, hBB] at hst hR hrg
     have hAp := hA
     have hBp := hB
     rw [hAA, List.pairwise_append] at hAp
     rw [hBB, List.pairwise_append] at hBp
     have hs1 : ∀ y ∈ A1, ∀ z ∈ B1, stb (keyR rs) y z := fun y hy z hz => hs y (by rw [hAA]; simp [hy]) z (by rw [hBB]; simp [hz])
     have hs2 : ∀ y ∈ A2, ∀ z ∈ B2, stb (keyR rs) y z := fun y hy z hz => hs y (by rw [hAA]; simp [hy]) z (by rw [hBB]; simp [hz])
     obtain ⟨R1, hR1⟩ := stb_ex (f := keyR rs) (List.pairwise_append.2 ⟨hAp.1.imp bef_stb, hBp.1.imp bef_stb, hs1⟩)
     obtain ⟨R2, hR2⟩ := stb_ex (f := keyR rs) (List.pairwise_append.2 ⟨hAp.2.1.imp bef_stb, hBp.2.1.imp bef_stb, hs2⟩)
     have hpm : (A1 ++ A2 ++ (B1 ++ B2)).Perm (A1 ++ B1 ++ (A2 ++ B2)) := by
       rw [List.append_assoc, List.append_assoc]
       refine List.Perm.append_left _ ?_
       rw [← List.append_assoc, ← List.append_assoc]
       exact List.Perm.append_right _ List.perm_append_comm
     have hRR := sorted_join ⟨hR.1.trans hpm, hR.2⟩ hR1 hR2 hah
     have hL1 := hR1.1.length_eq
     have hL2 := hR2.1.length_eq
     rw [List.length_append] at hL1 hL2
     have p1 : 0 < A1.length → 0 < B1.length → A2.length + B2.length ≠ 0 → (symS (A.length + B.length - 1)).pre ⟨rs, P, A1, B1, A2 ++ (B2 ++ S), R1⟩ := fun e1 e2 e3 =>
       ⟨⟨fun y hy => hrg y (by rcases List.mem_append.1 hy with h | h <;> simp [h]), hrs⟩, ⟨hAp.1, hBp.1, hs1, hR1⟩, ⟨e1, e2, by show A1.length + B1.length ≤ _; omega⟩, by show (P ++ (A1 ++ (B1 ++ (A2 ++ (B2 ++ S))))).length ≤ 1000000; simp; omega⟩
     have p2 : 0 < A2.length → 0 < B2.length → A1.length + B1.length ≠ 0 → (symS (A.length + B.length - 1)).pre ⟨rs, P ++ R1, A2, B2, S, R2⟩ := fun e1 e2 e3 =>
       ⟨⟨fun y hy => hrg y (by rcases List.mem_append.1 hy with h | h <;> simp [h]), hrs⟩, ⟨hAp.2.1, hBp.2.1, hs2, hR2⟩, ⟨e1, e2, by show A2.length + B2.length ≤ _; omega⟩, by show (P ++ R1 ++ (A2 ++ (B2 ++ S))).length ≤ 1000000; simp; omega⟩
     have q1 : ¬ (0 < A1.length ∧ 0 < B1.length) → R1 = A1 ++ B1 := fun h => by
       refine (sorted_self ?_ hR1).symm
       by_cases e : A1.length = 0
       · rw [List.eq_nil_of_length_eq_zero e]; exact hBp.1
       · rw [List.eq_nil_of_length_eq_zero (l := B1) (by omega), List.append_nil]; exact hAp.1
     have q2 : ¬ (0 < A2.length ∧ 0 < B2.length) → R2 = A2 ++ B2 := fun h => by
       refine (sorted_self ?_ hR2).symm
       by_cases e : A2.length = 0
       · rw [List.eq_nil_of_length_eq_zero e]; exact hBp.2.1
       · rw [List.eq_nil_of_length_eq_zero (l := B2) (by omega), List.append_nil]; exact hAp.2.1
     have hF1 : P ++ (A ++ (B ++ S)) = P ++ A1 ++ (A2 ++ (B1 ++ (B2 ++ S))) := by rw [hAA, hBB]; simp
     have hF2 : ¬ (0 < A2.length ∧ 0 < B1.length) → P ++ (A ++ (B ++ S)) = P ++ (A1 ++ (B1 ++ (A2 ++ (B2 ++ S)))) := fun h => by
       rw [hAA, hBB]
       by_cases e : A2.length = 0
       · rw [List.eq_nil_of_length_eq_zero e]; simp
       · rw [List.eq_nil_of_length_eq_zero (l := B1) (by omega)]; simp
     have hqA : q ≠ 0 := by omega
     by_cases c1 : 0 < A2.length ∧ 0 < B1.length
     · skip
       by_cases c2 : 0 < A1.length ∧ 0 < B1.length
       · skip
         by_cases c3 : 0 < A2.length ∧ 0 < B2.length
         · skip
           repeat' ((conv => whnf); first | (refine ⟨fun h => ?_, fun h => ?_⟩ <;> try (exfalso; first | omega | (revert h; decide) | exact h rfl)) | refine ⟨[0], _, rot_g, ⟨rs, P ++ A1, A2, B1, B2 ++ S⟩, ⟨c1, by show (P ++ A1 ++ (A2 ++ (B1 ++ (B2 ++ S)))).length ≤ 1000000; simp; omega⟩, ⟨⟨⟨rowE hF1, rfl, rfl⟩, trivial⟩, rfl, rfl, rfl⟩, ⟨⟨rfl, rfl⟩, (show leV (I _) (I ((P ++ A1).length)) from leI (by first | omega | (simp; done) | (simp; omega))), (show leV (I _) (I ((P ++ A1).length + A2.length)) from leI (by first | omega | (simp; done) | (simp; omega))), (show leV (I _) (I ((P ++ A1).length + A2.length + B1.length)) from leI (by first | omega | (simp; done) | (simp; omega))), rfl, trivial⟩, .inr ⟨rfl, ⟨cln1 _, trivial⟩, trivial⟩, ⟨⟨⟨⟨rfl, rfl⟩, by first | (simp; done) | (simp; omega)⟩, trivial⟩, trivial⟩, ?_⟩ | refine ⟨[0], _, hrec, ⟨rs, P, A1, B1, A2 ++ (B2 ++ S), R1⟩, p1 c2.1 c2.2 (by omega), ⟨⟨⟨rowE (by simp), rfl, rfl⟩, trivial⟩, rfl, rfl, rfl⟩, ⟨⟨rfl, rfl⟩, (show leV (I _) (I (P.length)) from leI (by first | omega | (simp; done) | (simp; omega))), (show leV (I _) (I (P.length + A1.length)) from leI (by first | omega | (simp; done) | (simp; omega))), (show leV (I _) (I (P.length + A1.length + B1.length)) from leI (by first | omega | (simp; done) | (simp; omega))), rfl, trivial⟩, .inr ⟨rfl, ⟨cln1 _, trivial⟩, trivial⟩, ⟨⟨⟨⟨rfl, rfl⟩, by first | (simp; done) | (simp; omega)⟩, trivial⟩, trivial⟩, ?_⟩ | refine ⟨[0], _, hrec, ⟨rs, P ++ R1, A2, B2, S, R2⟩, p2 c3.1 c3.2 (by omega), ⟨⟨⟨rowE (by simp), rfl, rfl⟩, trivial⟩, rfl, rfl, rfl⟩, ⟨⟨rfl, rfl⟩, (show leV (I _) (I ((P ++ R1).length)) from leI (by first | omega | (simp; done) | (simp; omega))), (show leV (I _) (I ((P ++ R1).length + A2.length)) from leI (by first | omega | (simp; done) | (simp; omega))), (show leV (I _) (I ((P ++ R1).length + A2.length + B2.length)) from leI (by first | omega | (simp; done) | (simp; omega))), rfl, trivial⟩, .inr ⟨rfl, ⟨cln1 _, trivial⟩, trivial⟩, ⟨⟨⟨⟨rfl, rfl⟩, by first | (simp; done) | (simp; omega)⟩, trivial⟩, trivial⟩, ?_⟩ | refine ⟨⟨by omega, by omega⟩, ?_⟩ | fail)
           all_goals (refine ⟨[], rfl, rfl, ⟨⟨?_, rfl⟩, trivial⟩, trivial⟩; exact rowE (by show _ = P ++ (R ++ S); rw [← hRR]; simp))
         · obtain rfl := q2 c3
           repeat' ((conv => whnf); first | (refine ⟨fun h => ?_, fun h => ?_⟩ <;> try (exfalso; first | omega | (revert h; decide) | exact h rfl)) | refine ⟨[0], _, rot_g, ⟨rs, P ++ A1, A2, B1, B2 ++ S⟩, ⟨c1, by show (P ++ A1 ++ (A2 ++ (B1 ++ (B2 ++ S)))).length ≤ 1000000; simp; omega⟩, ⟨⟨⟨rowE hF1, rfl, rfl⟩, trivial⟩, rfl, rfl, rfl⟩, ⟨⟨rfl, rfl⟩, (show leV (I _) (I ((P ++ A1).length)) from leI (by first | omega | (simp; done) | (simp; omega))), (show leV (I _) (I ((P ++ A1).length + A2.length)) from leI (by first | omega | (simp; done) | (simp; omega))), (show leV (I _) (I ((P ++ A1).length + A2.length + B1.length)) from leI (by first | omega | (simp; done) | (simp; omega))), rfl, trivial⟩, .inr ⟨rfl, ⟨cln1 _, trivial⟩, trivial⟩, ⟨⟨⟨⟨rfl, rfl⟩, by first | (simp; done) | (simp; omega)⟩, trivial⟩, trivial⟩, ?_⟩ | refine ⟨[0], _, hrec, ⟨rs, P, A1, B1, A2 ++ (B2 ++ S), R1⟩, p1 c2.1 c2.2 (by omega), ⟨⟨⟨rowE (by simp), rfl, rfl⟩, trivial⟩, rfl, rfl, rfl⟩, ⟨⟨rfl, rfl⟩, (show leV (I _) (I (P.length)) from leI (by first | omega | (simp; done) | (simp; omega))), (show leV (I _) (I (P.length + A1.length)) from leI (by first | omega | (simp; done) | (simp; omega))), (show leV (I _) (I (P.length + A1.length + B1.length)) from leI (by first | omega | (simp; done) | (simp; omega))), rfl, trivial⟩, .inr ⟨rfl, ⟨cln1 _, trivial⟩, trivial⟩, ⟨⟨⟨⟨rfl, rfl⟩, by first | (simp; done) | (simp; omega)⟩, trivial⟩, trivial⟩, ?_⟩ | refine ⟨⟨by omega, by omega⟩, ?_⟩ | fail)
           all_goals (refine ⟨[], rfl, rfl, ⟨⟨?_, rfl⟩, trivial⟩, trivial⟩; exact rowE (by show _ = P ++ (R ++ S); rw [← hRR]; simp))
       · obtain rfl := q1 c2
         by_cases c3 : 0 < A2.length ∧ 0 < B2.length
         · skip
           repeat' ((conv => whnf); first | (refine ⟨fun h => ?_, fun h => ?_⟩ <;> try (exfalso; first | omega | (revert h; decide) | exact h rfl)) | refine ⟨[0], _, rot_g, ⟨rs, P ++ A1, A2, B1, B2 ++ S⟩, ⟨c1, by show (P ++ A1 ++ (A2 ++ (B1 ++ (B2 ++ S)))).length ≤ 1000000; simp; omega⟩, ⟨⟨⟨rowE hF1, rfl, rfl⟩, trivial⟩, rfl, rfl, rfl⟩, ⟨⟨rfl, rfl⟩, (show leV (I _) (I ((P ++ A1).length)) from leI (by first | omega | (simp; done) | (simp; omega))), (show leV (I _) (I ((P ++ A1).length + A2.length)) from leI (by first | omega | (simp; done) | (simp; omega))), (show leV (I _) (I ((P ++ A1).length + A2.length + B1.length)) from leI (by first | omega | (simp; done) | (simp; omega))), rfl, trivial⟩, .inr ⟨rfl, ⟨cln1 _, trivial⟩, trivial⟩, ⟨⟨⟨⟨rfl, rfl⟩, by first | (simp; done) | (simp; omega)⟩, trivial⟩, trivial⟩, ?_⟩ | refine ⟨[0], _, hrec, ⟨rs, P ++ (A1 ++ B1), A2, B2, S, R2⟩, p2 c3.1 c3.2 (by omega), ⟨⟨⟨rowE (by simp), rfl, rfl⟩, trivial⟩, rfl, rfl, rfl⟩, ⟨⟨rfl, rfl⟩, (show leV (I _) (I ((P ++ (A1 ++ B1)).length)) from leI (by first | omega | (simp; done) | (simp; omega))), (show leV (I _) (I ((P ++ (A1 ++ B1)).length + A2.length)) from leI (by first | omega | (simp; done) | (simp; omega))), (show leV (I _) (I ((P ++ (A1 ++ B1)).length + A2.length + B2.length)) from leI (by first | omega | (simp; done) | (simp; omega))), rfl, trivial⟩, .inr ⟨rfl, ⟨cln1 _, trivial⟩, trivial⟩, ⟨⟨⟨⟨rfl, rfl⟩, by first | (simp; done) | (simp; omega)⟩, trivial⟩, trivial⟩, ?_⟩ | refine ⟨⟨by omega, by omega⟩, ?_⟩ | fail)
           all_goals (refine ⟨[], rfl, rfl, ⟨⟨?_, rfl⟩, trivial⟩, trivial⟩; exact rowE (by show _ = P ++ (R ++ S); rw [← hRR]; simp))
         · obtain rfl := q2 c3
           repeat' ((conv => whnf); first | (refine ⟨fun h => ?_, fun h => ?_⟩ <;> try (exfalso; first | omega | (revert h; decide) | exact h rfl)) | refine ⟨[0], _, rot_g, ⟨rs, P ++ A1, A2, B1, B2 ++ S⟩, ⟨c1, by show (P ++ A1 ++ (A2 ++ (B1 ++ (B2 ++ S)))).length ≤ 1000000; simp; omega⟩, ⟨⟨⟨rowE hF1, rfl, rfl⟩, trivial⟩, rfl, rfl, rfl⟩, ⟨⟨rfl, rfl⟩, (show leV (I _) (I ((P ++ A1).length)) from leI (by first | omega | (simp; done) | (simp; omega))), (show leV (I _) (I ((P ++ A1).length + A2.length)) from leI (by first | omega | (simp; done) | (simp; omega))), (show leV (I _) (I ((P ++ A1).length + A2.length + B1.length)) from leI (by first | omega | (simp; done) | (simp; omega))), rfl, trivial⟩, .inr ⟨rfl, ⟨cln1 _, trivial⟩, trivial⟩, ⟨⟨⟨⟨rfl, rfl⟩, by first | (simp; done) | (simp; omega)⟩, trivial⟩, trivial⟩, ?_⟩ | refine ⟨⟨by omega, by omega⟩, ?_⟩ | fail)
           all_goals (refine ⟨[], rfl, rfl, ⟨⟨?_, rfl⟩, trivial⟩, trivial⟩; exact rowE (by show _ = P ++ (R ++ S); rw [← hRR]; simp))
     · rw [hF2 c1]
       by_cases c2 : 0 < A1.length ∧ 0 < B1.length
       · skip
         by_cases c3 : 0 < A2.length ∧ 0 < B2.length
         · skip
           repeat' ((conv => whnf); first | (refine ⟨fun h => ?_, fun h => ?_⟩ <;> try (exfalso; first | omega | (revert h; decide) | exact h rfl)) | refine ⟨[0], _, hrec, ⟨rs, P, A1, B1, A2 ++ (B2 ++ S), R1⟩, p1 c2.1 c2.2 (by omega), ⟨⟨⟨rfl, rfl, rfl⟩, trivial⟩, rfl, rfl, rfl⟩, ⟨⟨rfl, rfl⟩, (show leV (I _) (I (P.length)) from leI (by first | omega | (simp; done) | (simp; omega))), (show leV (I _) (I (P.length + A1.length)) from leI (by first | omega | (simp; done) | (simp; omega))), (show leV (I _) (I (P.length + A1.length + B1.length)) from leI (by first | omega | (simp; done) | (simp; omega))), rfl, trivial⟩, .inr ⟨rfl, ⟨cln1 _, trivial⟩, trivial⟩, ⟨⟨⟨⟨rfl, rfl⟩, by first | (simp; done) | (simp; omega)⟩, trivial⟩, trivial⟩, ?_⟩ | refine ⟨[0], _, hrec, ⟨rs, P ++ R1, A2, B2, S, R2⟩, p2 c3.1 c3.2 (by omega), ⟨⟨⟨rowE (by simp), rfl, rfl⟩, trivial⟩, rfl, rfl, rfl⟩, ⟨⟨rfl, rfl⟩, (show leV (I _) (I ((P ++ R1).length)) from leI (by first | omega | (simp; done) | (simp; omega))), (show leV (I _) (I ((P ++ R1).length + A2.length)) from leI (by first | omega | (simp; done) | (simp; omega))), (show leV (I _) (I ((P ++ R1).length + A2.length + B2.length)) from leI (by first | omega | (simp; done) | (simp; omega))), rfl, trivial⟩, .inr ⟨rfl, ⟨cln1 _, trivial⟩, trivial⟩, ⟨⟨⟨⟨rfl, rfl⟩, by first | (simp; done) | (simp; omega)⟩, trivial⟩, trivial⟩, ?_⟩ | refine ⟨⟨by omega, by omega⟩, ?_⟩ | fail)
           all_goals (refine ⟨[], rfl, rfl, ⟨⟨?_, rfl⟩, trivial⟩, trivial⟩; exact rowE (by show _ = P ++ (R ++ S); rw [← hRR]; simp))
         · obtain rfl := q2 c3
           repeat' ((conv => whnf); first | (refine ⟨fun h => ?_, fun h => ?_⟩ <;> try (exfalso; first | omega | (revert h; decide) | exact h rfl)) | refine ⟨[0], _, hrec, ⟨rs, P, A1, B1, A2 ++ (B2 ++ S), R1⟩, p1 c2.1 c2.2 (by omega), ⟨⟨⟨rfl, rfl, rfl⟩, trivial⟩, rfl, rfl, rfl⟩, ⟨⟨rfl, rfl⟩, (show leV (I _) (I (P.length)) from leI (by first | omega | (simp; done) | (simp; omega))), (show leV (I _) (I (P.length + A1.length)) from leI (by first | omega | (simp; done) | (simp; omega))), (show leV (I _) (I (P.length + A1.length + B1.length)) from leI (by first | omega | (simp; done) | (simp; omega))), rfl, trivial⟩, .inr ⟨rfl, ⟨cln1 _, trivial⟩, trivial⟩, ⟨⟨⟨⟨rfl, rfl⟩, by first | (simp; done) | (simp; omega)⟩, trivial⟩, trivial⟩, ?_⟩ | refine ⟨⟨by omega, by omega⟩, ?_⟩ | fail)
           all_goals (refine ⟨[], rfl, rfl, ⟨⟨?_, rfl⟩, trivial⟩, trivial⟩; exact rowE (by show _ = P ++ (R ++ S); rw [← hRR]; simp))
       · obtain rfl := q1 c2
         by_cases c3 : 0 < A2.length ∧ 0 < B2.length
         · skip
           repeat' ((conv => whnf); first | (refine ⟨fun h => ?_, fun h => ?_⟩ <;> try (exfalso; first | omega | (revert h; decide) | exact h rfl)) | refine ⟨[0], _, hrec, ⟨rs, P ++ (A1 ++ B1), A2, B2, S, R2⟩, p2 c3.1 c3.2 (by omega), ⟨⟨⟨rowE (by simp), rfl, rfl⟩, trivial⟩, rfl, rfl, rfl⟩, ⟨⟨rfl, rfl⟩, (show leV (I _) (I ((P ++ (A1 ++ B1)).length)) from leI (by first | omega | (simp; done) | (simp; omega))), (show leV (I _) (I ((P ++ (A1 ++ B1)).length + A2.length)) from leI (by first | omega | (simp; done) | (simp; omega))), (show leV (I _) (I ((P ++ (A1 ++ B1)).length + A2.length + B2.length)) from leI (by first | omega | (simp; done) | (simp; omega))), rfl, trivial⟩, .inr ⟨rfl, ⟨cln1 _, trivial⟩, trivial⟩, ⟨⟨⟨⟨rfl, rfl⟩, by first | (simp; done) | (simp; omega)⟩, trivial⟩, trivial⟩, ?_⟩ | refine ⟨⟨by omega, by omega⟩, ?_⟩ | fail)
           all_goals (refine ⟨[], rfl, rfl, ⟨⟨?_, rfl⟩, trivial⟩, trivial⟩; exact rowE (by show _ = P ++ (R ++ S); rw [← hRR]; simp))
         · obtain rfl := q2 c3
           repeat' ((conv => whnf); first | (refine ⟨fun h => ?_, fun h => ?_⟩ <;> try (exfalso; first | omega | (revert h; decide) | exact h rfl)) | refine ⟨⟨by omega, by omega⟩, ?_⟩ | fail)
           all_goals (refine ⟨[], rfl, rfl, ⟨⟨?_, rfl⟩, trivial⟩, trivial⟩; exact rowE (by show _ = P ++ (R ++ S); rw [← hRR]; simp))
theorem sym_g : ∀ N : Nat, HoldsG Tryz.prog 97 (symS N) := by
 intro N
 induction N using Nat.strongRecOn with
 | _ N ih =>
   refine holdsG_of mix Tryz.func97 symLow (fun _ => rfl) ?_
   rintro ⟨rs, P, A, B, S, R⟩ hp
   obtain ⟨_, _, ⟨hA0, hB0, hN⟩, _⟩ := id hp
   replace hN : A.length + B.length ≤ N := hN
   replace hA0 : 0 < A.length := hA0
   by_cases h2 : A.length = 1
   · obtain ⟨x, rfl⟩ := List.length_eq_one_iff.1 h2
     exact symV1 N rs P x B S R hp
   · by_cases h3 : B.length = 1
     · obtain ⟨x, rfl⟩ := List.length_eq_one_iff.1 h3
       exact symV2 N rs P x A S R h2 hp
     · exact symV3 N rs P A B S R h2 h3 (ih _ (by omega)) hp
end Go.Proofs.YtjpdaapjnpdiiaaGreat
