/- TopShares: each cent that was paid for passes goes to exactly one operator, by the tariff, and after the settlement each operator has exactly what is due. No condition. -/
import Derived.Test.YtjpdaapjnpdiiaaGreatArg
namespace Go.Proofs.YtjpdaapjnpdiiaaGreat.lawShares
open Go.ChangeShapes Go.WideShapes Go.ChangeAt Go.RowKit Go.Deep Go.Joins
set_option linter.unusedVariables false
set_option maxRecDepth 20000

/-! skiarea/skiareatop.TopShares -/
def lawIr : IFn := ⟨231, [.tmp 8], (zq [ zo 4 .box [0], zl 8 .mov [zf]] (.seq (zq [ zo 24 (.call 4) [], zo 25 .not [24]] (.cond (.tmp 25) (zq [ zl 8 .mov [zf]] .ret) .skip)) (.seq (zq [ zo 26 (.faddr 0) [4], zo 27 (.load 1 false) [26], zo 28 .len [27], zl 29 (.cmp .gtr) [.tmp 28, zi 12], zm 30 29, zg 31 (.faddr 1) [4] 30 false, zg 32 (.load 1 false) [31] 30 false, zg 33 .len [32] 30 false, zh 34 (.cmp .gtr) [.tmp 33, zi 12] 30 false, zl 35 .pick [.tmp 30, zv, .tmp 34], zm 36 35, zg 37 (.faddr 2) [4] 36 false, zg 38 (.load 1 false) [37] 36 false, zg 39 .len [38] 36 false, zh 40 (.cmp .gtr) [.tmp 39, zi 12] 36
 false, zl 41 .pick [.tmp 36, zv, .tmp 40], zm 42 41, zw 43 1 42 false, zg 44 .len [43] 42 false, zh 45 (.cmp .gtr) [.tmp 44, zi 4] 42 false, zl 46 .pick [.tmp 42, zv, .tmp 45], zm 47 46, zw 48 2 47 false, zg 49 .len [48] 47 false, zh 50 (.cmp .gtr) [.tmp 49, zi 40] 47 false, zl 51 .pick [.tmp 47, zv, .tmp 50], zm 52 51, zw 53 3 52 false, zg 54 .len [53] 52 false, zh 55 (.cmp .gtr) [.tmp 54, zi 20] 52 false, zl 56 .pick [.tmp 52, zv, .tmp 55]] (.cond (.tmp 56) (zq [ zl 8 .mov [zv]] .ret) .skip)) (.seq (zq [ zo 57 (.load 4 true) [4], zo 58 (.call 5) [57], zl 59 (.cmp .neq) [.tmp 58, zi 0], zm 60
 59, zw 61 1 60 false, zg 62 (.call 6) [61] 60 false, zh 63 (.cmp .neq) [.tmp 62, zi 0] 60 false, zl 64 .pick [.tmp 60, zv, .tmp 63], zm 65 64, zw 66 2 65 false, zg 67 (.call 7) [66] 65 false, zh 68 (.cmp .neq) [.tmp 67, zi 0] 65 false, zl 69 .pick [.tmp 65, zv, .tmp 68], zm 70 69, zw 71 3 70 false, zg 72 (.call 8) [71] 70 false, zh 73 (.cmp .neq) [.tmp 72, zi 0] 70 false, zl 74 .pick [.tmp 70, zv, .tmp 73]] (.cond (.tmp 74) (zq [ zl 8 .mov [zv]] .ret) .skip)) (zq [ zo 76 (.load 4 true) [4], zm 77 1, zm 78 2, zm 79 3, zo 80 (.call 9) [76, 77, 78, 79], zm 75 80, zo 81 (.extract 0) [75], zo 82
 (.extract 1) [75], zm 9 81, zm 10 82] (zq [ zo 83 (.buildSl 47 2) [], zm 11 83] (zq [ zl 12 .mov [zi 0]] (.seq (zq [ zl 13 .mov [zi 0]] (.block 0 (.loop (.seq (zq [ zm 84 13, zm 85 3, zo 86 .len [85], zo 87 (.cmp .lss) [84, 86]] (.cond (.tmp 87) .skip (.exit 0))) (.seq (.block 1 (.seq (.ops [ zo 90 (.load 4 true) [4], zm 91 1, zm 92 2, zm 93 3, zm 94 13, zo 95 (.idx 6) [93, 94], zo 96 (.load 6 true) [95], zo 97 (.call 10) [90, 91, 92, 96], zm 14 97] true) (zq [ zm 99 14, zo 100 (.call 11) [99], zm 98 100, zo 101 (.extract 0) [98], zo 102 (.extract 1) [98], zm 15 101, zm 16 102] (.seq (zq [ zm
 103 16, zl 104 (.cmp .neq) [.tmp 103, zi 0], zm 105 104, zw 106 15 105 false, zw 107 3 105 false, zw 108 13 105 false, zg 109 (.idx 6) [107, 108] 105 false, zg 110 (.faddr 4) [109] 105 false, zg 111 (.load 1 false) [110] 105 false, zg 112 (.cmp .neq) [106, 111] 105 false, zl 113 .pick [.tmp 105, zv, .tmp 112]] (.cond (.tmp 113) (zq [ zl 8 .mov [zf]] .ret) .skip)) (.seq (.ops [ zm 115 11, zm 116 3, zm 117 13, zo 118 (.idx 6) [116, 117], zo 119 (.faddr 2) [118], zo 120 (.load 1 false) [119], zm 121 3, zm 122 13, zo 123 (.idx 6) [121, 122], zo 124 (.faddr 4) [123], zo 125 (.load 1 false) [124], zo
 126 (.build [.int .i64 0, .int .i64 0] [(0, 1), (1, 1)]) [120, 125], zo 127 (.buildSl 47 2) [126], zo 128 (.call 12) [115, 127], zm 114 128, zo 129 (.extract 0) [114], zo 130 (.extract 1) [114], zm 17 129, zm 16 130] true) (.seq (zq [ zm 131 16, zl 132 (.cmp .neq) [.tmp 131, zi 0]] (.cond (.tmp 132) (zq [ zl 8 .mov [zf]] .ret) .skip)) (zq [ zm 133 17, zm 11 133] (zp [ zm 134 12, zm 135 3, zm 136 13, zo 137 (.idx 6) [135, 136], zo 138 (.faddr 4) [137], zo 139 (.load 1 false) [138], zo 140 (.bin .add .i64 false) [134, 139], zm 12 140])))))))) (zp [ zm 88 13, zl 89 (.bin .add .i64 false) [.tmp 88,
 zi 1], zm 13 89])))))) (zq [ zm 142 9, zo 143 (.call 11) [142], zm 141 143, zo 144 (.extract 0) [141], zo 145 (.extract 1) [141], zm 18 144, zm 19 145] (.seq (zq [ zm 146 10, zl 147 (.cmp .neq) [.tmp 146, zi 0], zm 148 147, zw 149 19 148 false, zh 150 (.cmp .neq) [.tmp 149, zi 0] 148 false, zl 151 .pick [.tmp 148, zv, .tmp 150], zm 152 151, zw 153 18 152 false, zw 154 12 152 false, zg 155 (.cmp .neq) [153, 154] 152 false, zl 156 .pick [.tmp 152, zv, .tmp 155]] (.cond (.tmp 156) (zq [ zl 8 .mov [zf]] .ret) .skip)) (zq [ zo 158 (.build [.nil, .nil, .nil] []) [], zl 159 (.call 13) [.tmp 158, zi
 1000], zm 157 159, zo 160 (.extract 0) [157], zo 161 (.extract 1) [157], zo 20 (.alloc [.nil, .nil, .nil]) [], zn (.store 3) [20, 160], zm 10 161] (zq [ zo 163 (.load 3 true) [20], zm 164 9, zm 165 11, zl 166 (.call 14) [.tmp 163, zi 1, .tmp 164, .tmp 165], zm 162 166, zo 167 (.extract 0) [162], zo 168 (.extract 1) [162], zn (.store 3) [20, 167], zm 19 168] (.seq (zq [ zm 169 10, zl 170 (.cmp .neq) [.tmp 169, zi 0], zm 171 170, zw 172 19 171 false, zh 173 (.cmp .neq) [.tmp 172, zi 0] 171 false, zl 174 .pick [.tmp 171, zv, .tmp 173], zm 175 174, zg 176 (.load 3 true) [20] 175 false, zg 177
 (.call 15) [176] 175 false, zh 178 (.cmp .neq) [.tmp 177, zi 0] 175 false, zl 179 .pick [.tmp 175, zv, .tmp 178]] (.cond (.tmp 179) (zq [ zl 8 .mov [zf]] .ret) .skip)) (.seq (zq [ zl 21 .mov [zi 1]] (.block 2 (.loop (.seq (zq [ zm 180 21, zl 181 (.cmp .leq) [.tmp 180, zi 8]] (.cond (.tmp 181) .skip (.exit 2))) (.seq (.block 3 (zq [ zm 184 11, zm 185 21, zo 186 (.call 16) [184, 185], zm 22 186] (.seq (zq [ zl 23 .mov [zi 0]] (.block 4 (.loop (.seq (zq [ zm 187 23, zo 188 (.faddr 1) [20], zo 189 (.load 1 false) [188], zo 190 .len [189], zo 191 (.cmp .lss) [187, 190]] (.cond (.tmp 191) .skip
 (.exit 4))) (.seq (.block 5 (.seq (zq [ zo 194 (.faddr 1) [20], zo 195 (.load 1 false) [194], zm 196 23, zo 197 (.idx 4) [195, 196], zo 198 (.faddr 2) [197], zo 199 (.load 1 false) [198], zm 200 21, zo 201 (.cmp .eql) [199, 200]] (.cond (.tmp 201) (zp [ zm 202 22, zo 203 (.faddr 1) [20], zo 204 (.load 1 false) [203], zm 205 23, zo 206 (.idx 4) [204, 205], zo 207 (.faddr 3) [206], zo 208 (.load 1 false) [207], zo 209 (.bin .add .i64 false) [202, 208], zm 22 209]) .skip)) (zq [ zo 210 (.faddr 1) [20], zo 211 (.load 1 false) [210], zm 212 23, zo 213 (.idx 4) [211, 212], zo 214 (.faddr 1) [213], zo
 215 (.load 1 false) [214], zm 216 21, zo 217 (.cmp .eql) [215, 216]] (.cond (.tmp 217) (zp [ zm 218 22, zo 219 (.faddr 1) [20], zo 220 (.load 1 false) [219], zm 221 23, zo 222 (.idx 4) [220, 221], zo 223 (.faddr 3) [222], zo 224 (.load 1 false) [223], zo 225 (.bin .sub .i64 false) [218, 224], zm 22 225]) .skip)))) (zp [ zm 192 23, zl 193 (.bin .add .i64 false) [.tmp 192, zi 1], zm 23 193])))))) (zq [ zm 226 22, zm 227 9, zm 228 21, zo 229 (.call 16) [227, 228], zo 230 (.cmp .neq) [226, 229]] (.cond (.tmp 230) (zq [ zl 8 .mov [zf]] .ret) .skip))))) (zp [ zm 182 21, zl 183 (.bin .add .i64 false)
 [.tmp 182, zi 1], zm 21 183])))))) (zq [ zl 8 .mov [zv]] .ret)))))))))))))))⟩
theorem lawLow : lowF Tryz.prog {} Tryz.f3 = some lawIr := by kernel_rfl
def lawS : Spec := spec (Mp × List Tariff × List Ride × List Sale) (fun p => [aM p.1, L 2 (p.2.1.map encT), L 7 (p.2.2.1.map encD), L 6 (p.2.2.2.map encE)]) (fun p => okM p.1 ∧ okT p.2.1) (fun _ => B true)
set_option maxHeartbeats 4000000 in
theorem lawV : fnV Tryz.prog lawIr lawS := by
 intro ⟨(m : Mp), (l : List Tariff), (rides : List Ride), (sales : List Sale)⟩ hx
 obtain ⟨hm0, ht0⟩ : okM m ∧ okT l := hx
 have hl1 : (m.nodes.map encN).length = m.nodes.length := List.length_map ..
 have hl2 : (m.lifts.map encL).length = m.lifts.length := List.length_map ..
 have hl3 : (m.runs.map encU).length = m.runs.length := List.length_map ..
 have hl4 : (l.map encT).length = l.length := List.length_map ..
 have hl5 : (rides.map encD).length = rides.length := List.length_map ..
 have hl6 : (sales.map encE).length = sales.length := List.length_map ..
 show vc _ _ _ _ ⟨argEnv 0 [aM m, L 2 (l.map encT), L 7 (rides.map encD), L 6 (sales.map encE)], [], 0⟩
 by_cases hbig : m.nodes.length ≤ 12 ∧ m.lifts.length ≤ 12 ∧ m.runs.length ≤ 12 ∧ l.length ≤ 4 ∧ rides.length ≤ 40 ∧ sales.length ≤ 20
 · obtain ⟨g1, g2, g3, g4, g5, g6⟩ := hbig
   obtain ⟨nM, eM⟩ : ∃ e, rightM m = e := ⟨_, rfl⟩
   obtain ⟨nT, eT⟩ : ∃ e, tarsE l = e := ⟨_, rfl⟩
   obtain ⟨nR, eR⟩ : ∃ e, ridesE rides = e := ⟨_, rfl⟩
   obtain ⟨nS, eS⟩ : ∃ e, salesE sales = e := ⟨_, rfl⟩
   by_cases hok : nM = 0 ∧ nT = 0 ∧ nR = 0 ∧ nS = 0
   · obtain ⟨rfl, rfl, rfl, rfl⟩ := hok
     have hb : BkP m l rides := defP.bk (b := ⟨m, l, rides⟩) ⟨⟨⟨by show rides.length ≤ 100; omega, eM⟩, eT⟩, eR⟩ ⟨hm0, ht0, by show rides.length ≤ 9223372036854775807; omega⟩
     have hsa := sale_ok eS
     obtain ⟨hF, hsum⟩ := all_sum hb eS (by omega)
     have hpb := paid_bnd hsa
     obtain ⟨due, hdue⟩ : ∃ due, allR m l rides sales = due := ⟨_, rfl⟩
     rw [hdue] at hF hsum
     have hdl : due.length ≤ 1000000 := hF.len
     repeat' ((conv => whnf); first | (refine ⟨fun h => ?_, fun h => ?_⟩ <;> try (exfalso; first | omega | (revert h; decide) | exact h rfl | cases (show true = false from h) | cases (show false = true from h))) | (refine ⟨_, alive_h, (), trivial, leVs_of_eq rfl, .inl rfl, rfl, ?_⟩; show norm (B true) _) | (refine ⟨_, rrightM_h, m, hm0, leVs_of_eq rfl, .inl rfl, rfl, ?_⟩; show norm (I (rightM m)) _; rw [eM]) | (refine ⟨_, rtars_h, l, ht0, leVs_of_eq rfl, .inl rfl, rfl, ?_⟩; show norm (I (tarsE l)) _; rw [eT]) | (refine ⟨_, rrides_h, rides, (by show rides.length ≤ 1000000; omega), leVs_of_eq rfl, .inl rfl, rfl, ?_⟩; show norm (I (ridesE rides)) _; rw [eR]) | (refine ⟨_, rsright_h, sales, (by show sales.length ≤ 1000000; omega), leVs_of_eq rfl, .inl rfl, rfl, ?_⟩; show norm (I (salesE sales)) _; rw [eS]) | (refine ⟨_, allS_h, (m, l, rides, sales), ⟨hb, (by show sales.length ≤ 40; omega)⟩, leVs_of_eq rfl, .inl rfl, rfl, ?_⟩; show norm (.tup [L 2 ((allR m l rides sales).map encS), I (salesE sales)]) _; rw [eS, hdue]) | fail)
     refine ⟨Nat × (List Share) × Int, fun xq => ⟨[(1, L 2 (l.map encT)), (2, L 7 (rides.map encD)), (3, L 6 (sales.map encE)), (4, .bp 0 0), (9, L 2 (due.map encS)), (10, I 0), (11, L 2 ((xq.2.1).map encS)), (12, I xq.2.2), (13, I xq.1)], [(0, .box [L 2 (m.nodes.map encN), L 8 (m.lifts.map encL), L 7 (m.runs.map encU), L 1 (m.bases.map e1)])], 1⟩, fun xq => (xq.1 ≤ sales.length ∧ xq.2.1 = fewL (paysL (sales.take xq.1))) ∧ xq.2.2 = paidL (sales.take xq.1), fun xq => sales.length - xq.1, ⟨(0, [], 0), ?_, [], ⟨⟨rfl, rfl⟩, ⟨rfl, rfl⟩, ⟨rfl, rfl⟩, ⟨rfl, rfl⟩, ⟨rfl, rfl⟩, ⟨rfl, rfl⟩, ⟨rfl, rfl⟩, ⟨rfl, rfl⟩, ⟨rfl, rfl⟩, trivial⟩, ⟨⟨rfl, rfl, rfl⟩, trivial⟩, rfl, rfl, rfl⟩, ?_⟩
     · (try dsimp only); exact ⟨⟨Nat.zero_le _, (show ([] : List Share) = fewL (paysL []) by decide +kernel)⟩, rfl⟩
     rintro ⟨k, g, p⟩ hk
     obtain ⟨⟨hk, hg⟩, hp⟩ : (k ≤ sales.length ∧ g = fewL (paysL (sales.take k))) ∧ p = paidL (sales.take k) := hk
     (try dsimp only)
     have hst : ∀ x ∈ sales.take k, SaP x := fun x hx => hsa x (List.mem_of_mem_take hx)
     have hgd := pays_good hst
     have hpk := paid_bnd hst
     rw [List.length_take] at hpk
     rw [← hp] at hpk
     have hgF : Fine g := by
       rw [hg]
       refine fine_few hgd (by rw [List.length_take]; omega) ?_
       rw [← hp]; omega
     have hgl : g.length ≤ 1000000 := hgF.len
     have hgs : sumA g = p := by rw [hg, sumA_few, hgd.sum, hp]
     by_cases hkl : k < sales.length
     · obtain ⟨x, hx⟩ := getElem_some hkl
       have hxs := hsa x (List.mem_of_getElem? hx)
       have hof := hb.of hxs
       obtain ⟨one, hone⟩ : ∃ one, ofL m l rides x = one := ⟨_, rfl⟩
       have hop : Pos one := by rw [← hone]; exact of_pos hof
       have hos : sumA one = x.paid := by rw [← hone]; exact of_sum hof
       have hol : one.length ≤ 100 := by rw [← hone]; exact of_len hof
       have x1 := hxs.fee
       have x2 := hxs.paid
       have htot := tot_pos hop (by omega)
       rw [hos] at htot
       have hsn := pays_snoc hx
       have hpn := paid_snoc hx
       have hap : Pos (paysL (sales.take k) ++ [⟨x.seller, x.paid⟩]) := hgd.pos.app fun y hy => by rw [List.mem_singleton.1 hy]; show 0 ≤ x.paid; omega
       have has : sumA (paysL (sales.take k) ++ [⟨x.seller, x.paid⟩]) = p + x.paid := by rw [sumA_app, hgd.sum, hp]; simp [sumA]
       have hadd := add_few hap (by rw [has]; omega)
       rw [← hg, ← hsn] at hadd
       have hgl2 : g.length ≤ 2000 := by
         rw [hg]
         have h1 := few_len (paysL (sales.take k))
         have h2 : (paysL (sales.take k)).length ≤ sales.length := by unfold paysL; rw [List.length_map, List.length_take]; omega
         omega
       have hapre : (g.length ≤ 100000 ∧ ([⟨x.seller, x.paid⟩] : List Share).length ≤ 100000) ∧ ∀ y ∈ g ++ [⟨x.seller, x.paid⟩], okO y := by
         refine ⟨⟨by omega, by simp⟩, fun y hy => okO_of ?_⟩
         rcases List.mem_append.1 hy with hy | hy
         · have := (hgF.op y hy).1; omega
         · rw [List.mem_singleton.1 hy]
           have := hxs.sel
           show -1000 ≤ x.seller ∧ x.seller ≤ 1000
           omega
       repeat' ((conv => whnf); first | (refine ⟨fun h => ?_, fun h => ?_⟩ <;> try (exfalso; first | omega | (revert h; decide) | exact h rfl | cases (show true = false from h) | cases (show false = true from h))) | (refine ⟨by omega, fun r hrr => ?_⟩; first | ((have hre : r = encE x := by (first | exact get_row hrr hx | fail)); subst hre)) | (refine ⟨_, of_h, (m, l, rides, x), hof, leVs_of_eq rfl, .inl rfl, rfl, ?_⟩; show norm (L 2 ((ofL m l rides x).map encS)) _; rw [hone]) | (refine ⟨_, total_h, one, (by show (one).length ≤ 1000000; omega), leVs_of_eq rfl, .inl rfl, rfl, ?_⟩; show norm (totT (runO 0 ((one).map fun x : Share => x.a))) _; rw [htot]; show norm (.tup [I x.paid, I 0]) _) | (refine ⟨_, add_h, (g, [⟨x.seller, x.paid⟩]), hapre, leVs_of_eq rfl, .inl rfl, rfl, ?_⟩; show norm (addT g [⟨x.seller, x.paid⟩]) _; rw [hadd]) | (refine ⟨(k + 1, fewL (paysL (sales.take (k + 1))), p + x.paid), ⟨?_, by (try dsimp only); omega⟩, [], ⟨⟨rfl, rfl⟩, ⟨rfl, rfl⟩, ⟨rfl, rfl⟩, ⟨rfl, rfl⟩, ⟨rfl, rfl⟩, ⟨rfl, rfl⟩, ⟨rfl, rfl⟩, ⟨rfl, rfl⟩, ⟨rfl, rfl⟩, trivial⟩, ⟨⟨rfl, rfl, rfl⟩, trivial⟩, rfl, rfl, rfl⟩; (try dsimp only); exact ⟨⟨by omega, rfl⟩, by rw [hpn, hp]⟩) | (refine And.intro (And.intro (by omega) (by omega)) ?_) | fail)
     · rw [take_end hkl] at hg hp hgd
       have htot := tot_pos hF.pos (by omega)
       rw [hsum, ← hp] at htot
       have hse : sumA due = sumA g := by rw [hsum, hgs, hp]
       have hD := settled hF hgF (by omega) hse
       have hcl := close_ok hF hgF (by omega) hse
       have hcx : P.clsX bkA 1 (shP due) (shP g) = .tup [P.aB (P.clsB bkA 1 (shP due) (shP g)), I 0] := by unfold P.clsX; rw [hcl]
       obtain ⟨b2, hb2⟩ : ∃ b, P.clsB bkA 1 (shP due) (shP g) = b := ⟨_, rfl⟩
       rw [hb2] at hD hcx
       have hcp : P.clsP bkA (shP due) (shP g) := ⟨⟨by decide +kernel, by decide +kernel⟩, by show (due.map toP).length ≤ 9223372036854775807; rw [List.length_map]; omega, by show (g.map toP).length ≤ 9223372036854775807; rw [List.length_map]; omega⟩
       have hpl := hD.am.1
       have hlo : (b2.po.map P.encO).length = b2.po.length := List.length_map ..
       repeat' ((conv => whnf); first | (refine ⟨fun h => ?_, fun h => ?_⟩ <;> try (exfalso; first | omega | (revert h; decide) | exact h rfl | cases (show true = false from h) | cases (show false = true from h))) | (refine ⟨_, total_h, due, (by show (due).length ≤ 1000000; omega), leVs_of_eq rfl, .inl rfl, rfl, ?_⟩; show norm (totT (runO 0 ((due).map fun x : Share => x.a))) _; rw [htot]; show norm (.tup [I p, I 0]) _) | (refine ⟨_, P.begin_h, (P.bk0, 1000), (by show P.smB P.bk0; decide +kernel), ⟨⟨rfl, rfl, rfl, trivial⟩, rfl, trivial⟩, .inl rfl, rfl, ?_⟩; show norm (.tup [P.aB (P.beginB P.bk0 1000), I (P.beginE P.bk0 1000)]) _; rw [bkA_beg.1, bkA_beg.2]) | (refine ⟨_, P.close_h, (bkA, 1, shP due, shP g), hcp, (by show leVs [P.aB bkA, I 1, L 2 (due.map encS), L 2 (g.map encS)] [P.aB bkA, I 1, L 2 ((shP due).map P.encS), L 2 ((shP g).map P.encS)]; rw [enc_shP, enc_shP]; exact leVs_of_eq rfl), .inl rfl, rfl, ?_⟩; show norm (P.clsX bkA 1 (shP due) (shP g)) _; rw [hcx]; show norm (.tup [P.aB b2, I 0]) _) | (refine ⟨_, P.rRight_h, b2, P.okB_sm hD.sm, leVs_of_eq rfl, .inl rfl, rfl, ?_⟩; show norm (I (P.rightB b2)) _; rw [hD.right]) | fail)
       refine ⟨Int, fun xq => ⟨[(9, L 2 (due.map encS)), (11, L 2 (g.map encS)), (20, .bp 1 0), (21, I xq)], [(1, .box [L 5 (b2.ps.map P.encP), L 4 (b2.po.map P.encO), L 8 (b2.rs.map P.encC)])], 2⟩, fun xq => 1 ≤ xq ∧ xq ≤ 9, fun xq => (9 - xq).toNat, ⟨1, ?_, [], ⟨⟨rfl, rfl⟩, ⟨rfl, rfl⟩, ⟨rfl, rfl⟩, ⟨rfl, rfl⟩, trivial⟩, ⟨⟨rfl, rfl, rfl⟩, trivial⟩, rfl, rfl, rfl⟩, ?_⟩
       · (try dsimp only); exact ⟨by decide, by decide⟩
       rintro o hk
       obtain ⟨ho1, ho2⟩ : 1 ≤ o ∧ o ≤ 9 := hk
       (try dsimp only)
       by_cases ho : o ≤ 8
       · have hbal := hD.bal o ⟨ho1, ho⟩
         unfold P.balA at hbal
         have ga := hgF.pos.amt o
         repeat' ((conv => whnf); first | (refine ⟨fun h => ?_, fun h => ?_⟩ <;> try (exfalso; first | omega | (revert h; decide) | exact h rfl | cases (show true = false from h) | cases (show false = true from h))) | (refine ⟨_, amount_h, (g, o), ⟨⟨hgF.pos, (by show sumA g ≤ 1099511627776; omega)⟩, hgl⟩, leVs_of_eq rfl, .inl rfl, rfl, ?_⟩; show norm (I (amt g o)) _) | fail)
         refine ⟨Nat × Int, fun xq => ⟨[(9, L 2 (due.map encS)), (11, L 2 (g.map encS)), (20, .bp 1 0), (21, I o), (22, I xq.2), (23, I xq.1)], [(1, .box [L 5 (b2.ps.map P.encP), L 4 (b2.po.map P.encO), L 8 (b2.rs.map P.encC)])], 2⟩, fun xq => xq.1 ≤ b2.po.length ∧ xq.2 = amt g o + P.toA (b2.po.take xq.1) o - P.frA (b2.po.take xq.1) o, fun xq => b2.po.length - xq.1, ⟨(0, amt g o), ?_, [], ⟨⟨rfl, rfl⟩, ⟨rfl, rfl⟩, ⟨rfl, rfl⟩, ⟨rfl, rfl⟩, ⟨rfl, rfl⟩, ⟨rfl, rfl⟩, trivial⟩, ⟨⟨rfl, rfl, rfl⟩, trivial⟩, rfl, rfl, rfl⟩, ?_⟩
         · (try dsimp only); exact ⟨Nat.zero_le _, (show amt g o = amt g o + (0 : Int) - 0 by omega)⟩
         rintro ⟨i, n⟩ hk
         obtain ⟨hi, hn⟩ : i ≤ b2.po.length ∧ n = amt g o + P.toA (b2.po.take i) o - P.frA (b2.po.take i) o := hk
         (try dsimp only)
         by_cases hil : i < b2.po.length
         · obtain ⟨x, hx⟩ := getElem_some hil
           have b1 := P.toA_bnd hD.am o hi
           have b3 := P.frA_bnd hD.am o hi
           have hxa := hD.am.2 x (List.mem_of_getElem? hx)
           have e1 := P.toA_snoc o hx
           have e2 := P.frA_snoc o hx
           by_cases c1 : x.to = o
           · rw [if_pos c1] at e1
             by_cases c2 : x.fr = o
             · rw [if_pos c2] at e2
               repeat' ((conv => whnf); first | (refine ⟨fun h => ?_, fun h => ?_⟩ <;> try (exfalso; first | omega | (revert h; decide) | exact h rfl | cases (show true = false from h) | cases (show false = true from h))) | (refine And.intro (And.intro (by omega) (by omega)) ?_; intro r hrr; have hre : r = P.encO x := (by first | exact get_row hrr hx | fail); subst hre) | (refine ⟨(i + 1, n + x.am - x.am), ⟨?_, by (try dsimp only); omega⟩, [], ⟨⟨rfl, rfl⟩, ⟨rfl, rfl⟩, ⟨rfl, rfl⟩, ⟨rfl, rfl⟩, ⟨rfl, rfl⟩, ⟨rfl, rfl⟩, trivial⟩, ⟨⟨rfl, rfl, rfl⟩, trivial⟩, rfl, rfl, rfl⟩; (try dsimp only); exact ⟨by omega, by omega⟩) | (refine And.intro (And.intro (by omega) (by omega)) ?_) | fail)
             · rw [if_neg c2] at e2
               repeat' ((conv => whnf); first | (refine ⟨fun h => ?_, fun h => ?_⟩ <;> try (exfalso; first | omega | (revert h; decide) | exact h rfl | cases (show true = false from h) | cases (show false = true from h))) | (refine And.intro (And.intro (by omega) (by omega)) ?_; intro r hrr; have hre : r = P.encO x := (by first | exact get_row hrr hx | fail); subst hre) | (refine ⟨(i + 1, n + x.am), ⟨?_, by (try dsimp only); omega⟩, [], ⟨⟨rfl, rfl⟩, ⟨rfl, rfl⟩, ⟨rfl, rfl⟩, ⟨rfl, rfl⟩, ⟨rfl, rfl⟩, ⟨rfl, rfl⟩, trivial⟩, ⟨⟨rfl, rfl, rfl⟩, trivial⟩, rfl, rfl, rfl⟩; (try dsimp only); exact ⟨by omega, by omega⟩) | (refine And.intro (And.intro (by omega) (by omega)) ?_) | fail)
           · rw [if_neg c1] at e1
             by_cases c2 : x.fr = o
             · rw [if_pos c2] at e2
               repeat' ((conv => whnf); first | (refine ⟨fun h => ?_, fun h => ?_⟩ <;> try (exfalso; first | omega | (revert h; decide) | exact h rfl | cases (show true = false from h) | cases (show false = true from h))) | (refine And.intro (And.intro (by omega) (by omega)) ?_; intro r hrr; have hre : r = P.encO x := (by first | exact get_row hrr hx | fail); subst hre) | (refine ⟨(i + 1, n - x.am), ⟨?_, by (try dsimp only); omega⟩, [], ⟨⟨rfl, rfl⟩, ⟨rfl, rfl⟩, ⟨rfl, rfl⟩, ⟨rfl, rfl⟩, ⟨rfl, rfl⟩, ⟨rfl, rfl⟩, trivial⟩, ⟨⟨rfl, rfl, rfl⟩, trivial⟩, rfl, rfl, rfl⟩; (try dsimp only); exact ⟨by omega, by omega⟩) | (refine And.intro (And.intro (by omega) (by omega)) ?_) | fail)
             · rw [if_neg c2] at e2
               repeat' ((conv => whnf); first | (refine ⟨fun h => ?_, fun h => ?_⟩ <;> try (exfalso; first | omega | (revert h; decide) | exact h rfl | cases (show true = false from h) | cases (show false = true from h))) | (refine And.intro (And.intro (by omega) (by omega)) ?_; intro r hrr; have hre : r = P.encO x := (by first | exact get_row hrr hx | fail); subst hre) | (refine ⟨(i + 1, n), ⟨?_, by (try dsimp only); omega⟩, [], ⟨⟨rfl, rfl⟩, ⟨rfl, rfl⟩, ⟨rfl, rfl⟩, ⟨rfl, rfl⟩, ⟨rfl, rfl⟩, ⟨rfl, rfl⟩, trivial⟩, ⟨⟨rfl, rfl, rfl⟩, trivial⟩, rfl, rfl, rfl⟩; (try dsimp only); exact ⟨by omega, by omega⟩) | (refine And.intro (And.intro (by omega) (by omega)) ?_) | fail)
         · rw [take_end hil] at hn
           repeat' ((conv => whnf); first | (refine ⟨fun h => ?_, fun h => ?_⟩ <;> try (exfalso; first | omega | (revert h; decide) | exact h rfl | cases (show true = false from h) | cases (show false = true from h))) | (refine ⟨_, amount_h, (due, o), ⟨⟨hF.pos, (by show sumA due ≤ 1099511627776; omega)⟩, hdl⟩, leVs_of_eq rfl, .inl rfl, rfl, ?_⟩; show norm (I (amt due o)) _) | (refine ⟨o + 1, ⟨?_, by (try dsimp only); omega⟩, [], ⟨⟨rfl, rfl⟩, ⟨rfl, rfl⟩, ⟨rfl, rfl⟩, ⟨rfl, rfl⟩, trivial⟩, ⟨⟨rfl, rfl, rfl⟩, trivial⟩, rfl, rfl, rfl⟩; (try dsimp only); exact ⟨by omega, by omega⟩) | (refine And.intro (And.intro (by omega) (by omega)) ?_) | fail)
       · repeat' ((conv => whnf); first | (refine ⟨fun h => ?_, fun h => ?_⟩ <;> try (exfalso; first | omega | (revert h; decide) | exact h rfl | cases (show true = false from h) | cases (show false = true from h))) | exact ⟨[], rfl, trivial, rfl⟩ | fail)
   · repeat' ((conv => whnf); first | (refine ⟨fun h => ?_, fun h => ?_⟩ <;> try (exfalso; first | omega | (revert h; decide) | exact h rfl | cases (show true = false from h) | cases (show false = true from h))) | (refine ⟨_, alive_h, (), trivial, leVs_of_eq rfl, .inl rfl, rfl, ?_⟩; show norm (B true) _) | (refine ⟨_, rrightM_h, m, hm0, leVs_of_eq rfl, .inl rfl, rfl, ?_⟩; show norm (I (rightM m)) _; rw [eM]) | (refine ⟨_, rtars_h, l, ht0, leVs_of_eq rfl, .inl rfl, rfl, ?_⟩; show norm (I (tarsE l)) _; rw [eT]) | (refine ⟨_, rrides_h, rides, (by show rides.length ≤ 1000000; omega), leVs_of_eq rfl, .inl rfl, rfl, ?_⟩; show norm (I (ridesE rides)) _; rw [eR]) | (refine ⟨_, rsright_h, sales, (by show sales.length ≤ 1000000; omega), leVs_of_eq rfl, .inl rfl, rfl, ?_⟩; show norm (I (salesE sales)) _; rw [eS]) | exact ⟨[], rfl, trivial, rfl⟩ | fail)
 · repeat' ((conv => whnf); first | (refine ⟨fun h => ?_, fun h => ?_⟩ <;> try (exfalso; first | omega | (revert h; decide) | exact h rfl | cases (show true = false from h) | cases (show false = true from h))) | (refine ⟨_, alive_h, (), trivial, leVs_of_eq rfl, .inl rfl, rfl, ?_⟩; show norm (B true) _) | exact ⟨[], rfl, trivial, rfl⟩ | fail)
theorem law_h : Holds Tryz.prog 3 lawS := holds_of mix Tryz.func3 lawLow (fun _ => rfl) lawV

/-! ### THE ROW's STEP -/
theorem own : ownKnob Tryz.prog.godebug = none := by kernel_rfl
theorem laidOut : laidOutB Tryz.prog = true := by kernel_rfl
set_option maxRecDepth 100000 in
theorem lifted (os : Os) (started : os.Started) (H : Type) (enc : TypeId × Value → H) :
   ReturnsInHanded {} Tryz.checked os 3 .any (Rows.topSharesSpec.pre6 enc Tryz.prog Tryz.f3 Rows.topSharesRow.domain false) (Rows.topSharesSpec.post enc Tryz.prog Tryz.f3 false true false false) := by
 refine returnsInHanded_of_change (C := Tryz.checked) own started (by kernel_rfl) Tryz.func3
   (ChangeSpec.witness6 (enc := enc) (C := Tryz.checked) false ⟨#[], #[.agg #[.slice none 0 0, .slice none 0 0, .slice none 0 0, .slice none 0 0], .slice none 0 0, .slice none 0 0, .slice none 0 0], []⟩ 8 (by kernel_rfl) (by kernel_rfl) (by kernel_rfl) (by kernel_rfl)) ?_
 intro W base args ds gs before hval0 hW hcnd _
 have hval : ∀ (j : Nat) t v, Tryz.f3.params[j]? = some t → args[j]? = some v → Value.okWide Tryz.prog W .any base t v := hval0
 have hW' := hW
 obtain ⟨p, q, hA0, hV, rfl, hfz, hnd⟩ := hW
 have hA : DataW.TrodAll enc Tryz.prog W 0 (fun _ => true) true Tryz.f3.params.toList args.toList ds p := hA0
 rw [Tryz.params3] at hA hval
 obtain ⟨v0, vs0, d0, ds0, p0, q0, hargs, rfl, rfl, h0, r0⟩ := trodAll_cons hA
 obtain ⟨v1, vs1, d1, ds1, p1, q1, rfl, rfl, rfl, h1, r1⟩ := trodAll_cons r0
 obtain ⟨v2, vs2, d2, ds2, p2, q2, rfl, rfl, rfl, h2, r2⟩ := trodAll_cons r1
 obtain ⟨v3, vs3, d3, ds3, p3, q3, rfl, rfl, rfl, h3, r3⟩ := trodAll_cons r2
 obtain ⟨rfl, rfl, rfl⟩ := trodAll_nil r3
 obtain rfl : args = #[v0, v1, v2, v3] := by cases args; simp_all
 obtain ⟨rfl, rfl⟩ := trodVars_none hV
 have lt0 : ∀ x ∈ p0, x.block < W.heap.size := by obtain ⟨m, hm⟩ := h0; exact DataW.trod_lt m _ _ _ hm
 obtain ⟨z0, w0, x0⟩ := openM (hval 0 27 v0 rfl rfl) h0
 have lt1 : ∀ x ∈ p1, x.block < W.heap.size := by obtain ⟨m, hm⟩ := h1; exact DataW.trod_lt m _ _ _ hm
 obtain ⟨z1, w1, x1⟩ := openT (hval 1 28 v1 rfl rfl) h1
 have lt2 : ∀ x ∈ p2, x.block < W.heap.size := by obtain ⟨m, hm⟩ := h2; exact DataW.trod_lt m _ _ _ hm
 obtain ⟨z2, w2, x2⟩ := openD (hval 2 29 v2 rfl rfl) h2
 have lt3 : ∀ x ∈ p3, x.block < W.heap.size := by obtain ⟨m, hm⟩ := h3; exact DataW.trod_lt m _ _ _ hm
 obtain ⟨z3, w3, x3⟩ := openE (hval 3 30 v3 rfl rfl) h3
 clear hA0 hval0
 refine Calls.mono (law_calls law_h (z0, z1, z2, z3) ⟨w0, w1⟩ rfl (vs := [v0, v1, v2, v3]) (replist_mk x0 (replist_mk x1 (replist_mk x2 (replist_mk x3 replist_mk0))))) fun e W' ⟨he, bel⟩ => ?_
 subst he
 exact ⟨_, rfl, _, _, _, [], _, [], hW', trodAll_mk1 (shut_bool Tryz.underlying4 _), (trodAll_cons_mk (Below.trod laidOut (by kernel_rfl) (of_decide_eq_true (by kernel_rfl)) h0 bel lt0) (trodAll_cons_mk (Below.trod laidOut (by kernel_rfl) (of_decide_eq_true (by kernel_rfl)) h1 bel lt1) (trodAll_cons_mk (Below.trod laidOut (by kernel_rfl) (of_decide_eq_true (by kernel_rfl)) h2 bel lt2) (trodAll_cons_mk (Below.trod laidOut (by kernel_rfl) (of_decide_eq_true (by kernel_rfl)) h3 bel lt3) trodAll_mk0)))), rfl, bel.frame _, fun h => by cases h⟩

theorem over : Rows.topSharesRow.holds Tryz.pinned (OpenSpec.ofChange Rows.topSharesSpec) :=
 OpenClaim.holds_of_wide 3 Tryz.f3 rfl rfl rfl rfl rfl rfl rfl ⟨rfl, rfl, rfl, rfl, rfl⟩ rfl rfl rfl rfl rfl (by kernel_rfl) Tryz.func3 (by kernel_rfl)
   (of_decide_eq_true (by kernel_rfl)) (by unfold Func.isWrapper; first | (rw [if_pos (by decide +kernel)]; kernel_rfl) | (rw [if_neg (by decide +kernel)]; exact ⟨rfl, rfl⟩))
   (fun os started H enc _ => lifted os started H enc)

theorem proved : Rows.TopSharesSaid := over
end Go.Proofs.YtjpdaapjnpdiiaaGreat.lawShares
