/- A part of the proof. -/
import Derived.Test.YtjpdaapjnpdiiaaGreatQRF
namespace Go.Proofs.YtjpdaapjnpdiiaaGreat.P
open Go.RowKit
def clsP (b : Bk) (due rec : List Share) : Prop := (smB b ∧ b.po.length ≤ 800000) ∧ due.length ≤ 9223372036854775807 ∧ rec.length ≤ 9223372036854775807
def closeIr : IFn := ⟨100, [.cell 8 3 true, .tmp 9], (zq [ zo 4 .box [0], zo 8 (.alloc [.nil, .nil, .nil]) [], zl 9 .mov [zi 0]] (.seq (zq [ zm 16 1, zl 17 (.cmp .lss) [.tmp 16, zi 1], zm 18 17, zw 19 1 18 false, zg 20 (.faddr 0) [4] 18 false, zg 21 (.load 1 false) [20] 18 false, zg 22 .len [21] 18 false, zg 23 (.cmp .gtr) [19, 22] 18 false, zl 24 .pick [.tmp 18, zv, .tmp 23]] (.cond (.tmp 24) (zq [ zo 25 (.build [.nil, .nil, .nil] []) [], zn (.store 3) [8, 25], zl 9 .mov [zi 8]] .ret) .skip)) (.seq (zq [ zm 26 1, zo 27 (.load 3 true) [4], zo 28 (.call 35) [27], zo 29 (.cmp .neq) [26, 28]] (.cond (.tmp 29) (zq [ zo
 30 (.build [.nil, .nil, .nil] []) [], zn (.store 3) [8, 30], zl 9 .mov [zi 10]] .ret) .skip)) (.seq (zq [ zm 31 2, zo 32 (.call 36) [31], zo 33 .not [32], zm 34 33, zw 35 3 34 false, zg 36 (.call 36) [35] 34 false, zg 37 .not [36] 34 false, zl 38 .pick [.tmp 34, zv, .tmp 37], zm 39 38, zw 40 2 39 false, zg 41 (.call 37) [40] 39 false, zw 42 3 39 false, zg 43 (.call 37) [42] 39 false, zg 44 (.cmp .neq) [41, 43] 39 false, zl 45 .pick [.tmp 39, zv, .tmp 44]] (.cond (.tmp 45) (zq [ zo 46 (.build [.nil, .nil, .nil] []) [], zn (.store 3) [8, 46], zl 9 .mov [zi 1]] .ret) .skip)) (zq [ zo 47 (.load 3
 true) [4], zo 48 (.callo 34) [47], zo 10 (.alloc [.nil, .nil, .nil]) [], zn (.store 3) [10, 48]] (.seq (zq [ zm 49 2, zm 50 3, zo 51 (.call 39) [49, 50], zo 52 (.call 38) [51], zo 53 .len [52], zl 54 .mov [zi 0]] (.block 0 (.loop (zq [ zo 55 (.cmp .lss) [54, 53]] (.seq (.cond (.tmp 55) .skip (.exit 0)) (.seq (.block 1 (zq [ zm 56 54, zo 57 (.idx 3) [52, 54], zo 58 (.load 3 true) [57], zo 12 (.alloc [.int .i64 0, .int .i64 0, .int .i64 0]) [], zm 11 56, zn (.store 3) [12, 58]] (zq [ zm 59 1, zl 60 (.bin .mul .i64 false) [.tmp 59, zi 100], zm 61 11, zo 62 (.bin .add .i64 false) [60, 61], zl 63
 (.bin .add .i64 false) [.tmp 62, zi 1], zo 64 (.faddr 0) [12], zo 65 (.load 1 false) [64], zo 66 (.faddr 1) [12], zo 67 (.load 1 false) [66], zo 68 (.faddr 2) [12], zo 69 (.load 1 false) [68], zo 70 (.build [.int .i64 0, .int .i64 0, .int .i64 0, .int .i64 0] [(0, 1), (1, 1), (2, 1), (3, 1)]) [63, 65, 67, 69], zo 13 (.alloc [.int .i64 0, .int .i64 0, .int .i64 0, .int .i64 0]) [], zn (.store 4) [13, 70]] (zq [ zo 72 (.faddr 1) [10], zo 73 (.load 1 false) [72], zo 74 (.load 4 true) [13], zo 75 (.callo 40) [73, 74], zm 71 75, zo 76 (.extract 0) [71], zo 77 (.extract 1) [71], zm 14 76, zm 15 77]
 (.seq (zq [ zm 78 15, zl 79 (.cmp .neq) [.tmp 78, zi 0]] (.cond (.tmp 79) (zq [ zo 80 (.build [.nil, .nil, .nil] []) [], zm 81 15, zn (.store 3) [8, 80], zm 9 81] .ret) .skip)) (zp [ zm 82 14, zo 83 (.faddr 1) [10], zn (.store 1) [83, 82]])))))) (zp [ zl 84 (.bin .add .i64 false) [.tmp 54, zi 1], zm 54 84]))))))) (zq [ zo 85 (.faddr 0) [10], zo 86 (.load 1 false) [85], zm 87 1, zl 88 (.bin .sub .i64 false) [.tmp 87, zi 1], zo 89 (.idx 5) [86, 88], zo 90 (.faddr 3) [89], ⟨none, .store 1, [.tmp 90, zv], none⟩] (.seq (.ops [ zo 91 (.faddr 0) [10], zo 92 (.load 1 false) [91], zm 93 1, zl 94 (.bin
 .sub .i64 false) [.tmp 93, zi 1], zm 95 2, zo 96 (.call 41) [95], zo 97 (.idx 5) [92, 94], zo 98 (.faddr 4) [97], zn (.store 1) [98, 96]] true) (zq [ zo 99 (.load 3 true) [10], zn (.store 3) [8, 99], zl 9 .mov [zi 0]] .ret)))))))))⟩
theorem closeLow : lowF Tryz.prog { gives := [48, 75] } Tryz.f14 = some closeIr := by kernel_rfl
def closeS : Spec := spec (Bk × Int × List Share × List Share) (fun p => [aB p.1, I p.2.1, L 2 (p.2.2.1.map encS), L 2 (p.2.2.2.map encS)]) (fun p => clsP p.1 p.2.2.1 p.2.2.2) (fun p => clsX p.1 p.2.1 p.2.2.1 p.2.2.2)
set_option maxHeartbeats 4000000 in
theorem closeV : fnV Tryz.prog closeIr closeS := by
 intro ⟨(b : Bk), (n : Int), (due : List Share), (rec : List Share)⟩ hp
 obtain ⟨⟨hb, hpo8⟩, hdl, hrl⟩ : (smB b ∧ b.po.length ≤ 800000) ∧ due.length ≤ 9223372036854775807 ∧ rec.length ≤ 9223372036854775807 := hp
 obtain ⟨⟨c1, c2, c3⟩, c4⟩ : (b.ps.length ≤ 1000000 ∧ b.po.length ≤ 1000000 ∧ b.rs.length ≤ 1000000) ∧ ∀ p ∈ b.ps, p.sh.length ≤ 1000000 := hb
 have hb : smB b := ⟨⟨c1, c2, c3⟩, c4⟩
 have hok : okB b := ⟨⟨by omega, by omega⟩, by omega, fun p hp => by have := c4 p hp; omega⟩
 have hlp : (b.ps.map encP).length = b.ps.length := List.length_map ..
 have hlo : (b.po.map encO).length = b.po.length := List.length_map ..
 have hlr : (b.rs.map encC).length = b.rs.length := List.length_map ..
 have hE : clsE b n due rec = if n < 1 ∨ (b.ps.length : Int) < n then 8 else if n ≠ firstC b.ps then 10 else if accB due = false ∨ accB rec = false ∨ sumA due ≠ sumA rec then 1 else (postAll n 0 (cloT due rec) b.po).2 := rfl
 show vc _ _ _ _ ⟨argEnv 0 [aB b, I n, L 2 (due.map encS), L 2 (rec.map encS)], [], 0⟩
 by_cases h1 : n < 1 ∨ (b.ps.length : Int) < n
 · rw [if_pos h1] at hE
   repeat' ((conv => whnf); first | (refine ⟨fun h => ?_, fun h => ?_⟩ <;> try (exfalso; first | omega | (revert h; decide) | exact h rfl | cases (show true = false from h) | cases (show false = true from h))) | fail)
   all_goals (refine ⟨[], rfl, trivial, ?_⟩; show leR _ (clsX b n due rec); rw [clsX_err hE (by decide)]; exact ⟨⟨rfl, rfl, rfl, trivial⟩, rfl, trivial⟩)
 rw [if_neg h1] at hE
 obtain ⟨x, hx⟩ := getElem_some (show (n - 1).toNat < b.ps.length by omega)
 by_cases h2 : n ≠ firstC b.ps
 · rw [if_pos h2] at hE
   repeat' ((conv => whnf); first | (refine ⟨fun h => ?_, fun h => ?_⟩ <;> try (exfalso; first | omega | (revert h; decide) | exact h rfl | cases (show true = false from h) | cases (show false = true from h))) | (refine ⟨_, First_h, b, hok, leVs_of_eq rfl, .inl rfl, rfl, ?_⟩; show norm (I (firstC b.ps)) _) | fail)
   all_goals (refine ⟨[], rfl, trivial, ?_⟩; show leR _ (clsX b n due rec); rw [clsX_err hE (by decide)]; exact ⟨⟨rfl, rfl, rfl, trivial⟩, rfl, trivial⟩)
 rw [if_neg h2] at hE
 cases d1 : accB due with
 | false =>
   rw [if_pos (.inl d1)] at hE
   repeat' ((conv => whnf); first | (refine ⟨fun h => ?_, fun h => ?_⟩ <;> try (exfalso; first | omega | (revert h; decide) | exact h rfl | cases (show true = false from h) | cases (show false = true from h))) | (refine ⟨_, First_h, b, hok, leVs_of_eq rfl, .inl rfl, rfl, ?_⟩; show norm (I (firstC b.ps)) _) | (refine ⟨_, acc_h, due, (by show due.length ≤ _; omega), leVs_of_eq rfl, .inl rfl, rfl, ?_⟩; show norm (B (accB due)) _; rw [d1]) | fail)
   all_goals (refine ⟨[], rfl, trivial, ?_⟩; show leR _ (clsX b n due rec); rw [clsX_err hE (by decide)]; exact ⟨⟨rfl, rfl, rfl, trivial⟩, rfl, trivial⟩)
 | true =>
 cases d2 : accB rec with
 | false =>
   rw [if_pos (.inr (.inl d2))] at hE
   repeat' ((conv => whnf); first | (refine ⟨fun h => ?_, fun h => ?_⟩ <;> try (exfalso; first | omega | (revert h; decide) | exact h rfl | cases (show true = false from h) | cases (show false = true from h))) | (refine ⟨_, First_h, b, hok, leVs_of_eq rfl, .inl rfl, rfl, ?_⟩; show norm (I (firstC b.ps)) _) | (refine ⟨_, acc_h, due, (by show due.length ≤ _; omega), leVs_of_eq rfl, .inl rfl, rfl, ?_⟩; show norm (B (accB due)) _; rw [d1]) | (refine ⟨_, acc_h, rec, (by show rec.length ≤ _; omega), leVs_of_eq rfl, .inl rfl, rfl, ?_⟩; show norm (B (accB rec)) _; rw [d2]) | fail)
   all_goals (refine ⟨[], rfl, trivial, ?_⟩; show leR _ (clsX b n due rec); rw [clsX_err hE (by decide)]; exact ⟨⟨rfl, rfl, rfl, trivial⟩, rfl, trivial⟩)
 | true =>
 by_cases d3 : sumA due = sumA rec
 rotate_left
 · rw [if_pos (.inr (.inr d3))] at hE
   repeat' ((conv => whnf); first | (refine ⟨fun h => ?_, fun h => ?_⟩ <;> try (exfalso; first | omega | (revert h; decide) | exact h rfl | cases (show true = false from h) | cases (show false = true from h))) | (refine ⟨_, First_h, b, hok, leVs_of_eq rfl, .inl rfl, rfl, ?_⟩; show norm (I (firstC b.ps)) _) | (refine ⟨_, acc_h, due, (by show due.length ≤ _; omega), leVs_of_eq rfl, .inl rfl, rfl, ?_⟩; show norm (B (accB due)) _; rw [d1]) | (refine ⟨_, acc_h, rec, (by show rec.length ≤ _; omega), leVs_of_eq rfl, .inl rfl, rfl, ?_⟩; show norm (B (accB rec)) _; rw [d2]) | (refine ⟨_, total_h, due, d1, leVs_of_eq rfl, .inl rfl, rfl, ?_⟩; show norm (I (sumA due)) _) | (refine ⟨_, total_h, rec, d2, leVs_of_eq rfl, .inl rfl, rfl, ?_⟩; show norm (I (sumA rec)) _) | fail)
   all_goals (refine ⟨[], rfl, trivial, ?_⟩; show leR _ (clsX b n due rec); rw [clsX_err hE (by decide)]; exact ⟨⟨rfl, rfl, rfl, trivial⟩, rfl, trivial⟩)
 rw [if_neg (fun h => by rcases h with h | h | h; (rw [d1] at h; cases h); (rw [d2] at h; cases h); exact h d3)] at hE
 have hT8 := cloT_len d1 d2 d3
 have hd0 : due.length ≤ 1000000 := by have := acc_len d1; omega
 have hlt : ((cloT due rec).map encT).length = (cloT due rec).length := List.length_map ..
 have hkx : (b.ps.map encP)[(n - 1).toNat]? = some (encP x) := by rw [List.getElem?_map, hx]; rfl
 have hkx2 : ((b.ps.map encP).set (n - 1).toNat [CV.int .i64 x.num, .int .i64 x.fr, .int .i64 x.to, .bool true, .sl 2 (x.sh.map encS)])[(n - 1).toNat]? = some [CV.int .i64 x.num, .int .i64 x.fr, .int .i64 x.to, .bool true, .sl 2 (x.sh.map encS)] := List.getElem?_set_self (by rw [List.length_map]; omega)
 have hls : ((b.ps.map encP).set (n - 1).toNat [CV.int .i64 x.num, .int .i64 x.fr, .int .i64 x.to, .bool true, .sl 2 (x.sh.map encS)]).length = b.ps.length := by rw [List.length_set, List.length_map]
 repeat' ((conv => whnf); first | (refine ⟨fun h => ?_, fun h => ?_⟩ <;> try (exfalso; first | omega | (revert h; decide) | exact h rfl | cases (show true = false from h) | cases (show false = true from h))) | (refine ⟨_, First_h, b, hok, leVs_of_eq rfl, .inl rfl, rfl, ?_⟩; show norm (I (firstC b.ps)) _) | (refine ⟨_, acc_h, due, (by show due.length ≤ _; omega), leVs_of_eq rfl, .inl rfl, rfl, ?_⟩; show norm (B (accB due)) _; rw [d1]) | (refine ⟨_, acc_h, rec, (by show rec.length ≤ _; omega), leVs_of_eq rfl, .inl rfl, rfl, ?_⟩; show norm (B (accB rec)) _; rw [d2]) | (refine ⟨_, total_h, due, d1, leVs_of_eq rfl, .inl rfl, rfl, ?_⟩; show norm (I (sumA due)) _) | (refine ⟨_, total_h, rec, d2, leVs_of_eq rfl, .inl rfl, rfl, ?_⟩; show norm (I (sumA rec)) _) | fail)
 conv => whnf
 dsimp only
 refine ⟨rfl, _, copyOf_h, b, hb, leVs_of_eq rfl, trivial, ?_⟩
 repeat' ((conv => whnf); (try dsimp only [setL, List.map_cons, List.map_nil, List.take, List.drop, SV.cells, constV, shift, St.new, St.put, kills, killI, Nat.reduceAdd]); first | (refine ⟨_, posit_h, (due, rec), ⟨d1, d2⟩, leVs_of_eq rfl, .inl rfl, rfl, ?_⟩; show norm (L 2 ((posL due rec).map encS)) _) | (refine ⟨_, net_h, posL due rec, (posL_right d1 d2 d3), leVs_of_eq rfl, .inl rfl, rfl, ?_⟩; show norm (L 3 ((cloT due rec).map encT)) _) | fail)
 refine ⟨Nat × (List Pst), fun xq => ⟨[(1, I n), (2, L 2 (due.map encS)), (8, .bp 0 0), (10, .bp 4 0), (52, L 3 ((cloT due rec).map encT)), (53, I ((cloT due rec).map encT).length), (54, I xq.1)], [(0, nils), (1, rowP b.ps), (2, rowO xq.2), (3, rowC b.rs), (4, .box [.osl 1, .osl 2, .osl 3])], 5⟩, fun xq => xq.1 ≤ (cloT due rec).length ∧ xq.2.length ≤ b.po.length + xq.1 ∧ postAll n xq.1 ((cloT due rec).drop xq.1) xq.2 = postAll n 0 (cloT due rec) b.po, fun xq => (cloT due rec).length - xq.1, ⟨(0, b.po), ?_, [(0, 1), (1, 2), (2, 3), (3, 4), (4, 5)], ⟨⟨rfl, rfl⟩, ⟨rfl, rfl⟩, ⟨rfl, rfl⟩, ⟨rfl, rfl⟩, ⟨rfl, rfl⟩, ⟨rfl, rfl⟩, ⟨rfl, rfl⟩, trivial⟩, ⟨⟨rfl, rfl, rfl⟩, ⟨rfl, rfl, rfl⟩, ⟨rfl, rfl, rfl⟩, ⟨rfl, rfl, rfl⟩, ⟨rfl, rfl, rfl⟩, trivial⟩, rfl, rfl, rfl⟩, ?_⟩
 · (try dsimp only); exact ⟨Nat.zero_le _, Nat.le_refl _, rfl⟩
 rintro ⟨k, po⟩ hk
 obtain ⟨hk, hpl, hpo⟩ : k ≤ (cloT due rec).length ∧ po.length ≤ b.po.length + k ∧ postAll n k ((cloT due rec).drop k) po = postAll n 0 (cloT due rec) b.po := hk
 (try dsimp only)
 by_cases hkl : k < (cloT due rec).length
 · obtain ⟨t, ht⟩ := getElem_some hkl
   have hdr := drop_of ht
   by_cases hq : (postF po (refP n k t)).2 ≠ 0
   · have hE2 : clsE b n due rec = (postF po (refP n k t)).2 := by rw [hE, ← hpo, hdr, postAll_bad hq]
     have e1 : postR po (refP n k t) = .tup [.c .nil, I (postF po (refP n k t)).2] := if_neg hq
     have e2 : postOb po (refP n k t) = [] := if_neg hq
     repeat' ((conv => whnf); first | (refine ⟨fun h => ?_, fun h => ?_⟩ <;> try (exfalso; first | omega | (revert h; decide) | exact h rfl | cases (show true = false from h) | cases (show false = true from h))) | (refine ⟨by omega, fun r hrr => ?_⟩; first | ((have hre : r = encT t := by (first | exact get_row hrr ht | fail)); subst hre)) | (refine ⟨rfl, _, postO_h, (po, refP n k t), (by show po.length ≤ 900000; omega), ⟨leV_refl _, leV_refl _, trivial⟩, (by show rowsO (postOb po (refP n k t)); rw [e2]; trivial), ?_⟩; show norm (shift _ (postR po (refP n k t))) fun r' => setK (St.news _ (postOb po (refP n k t))) _ r' _; rw [e1, e2]) | refine ⟨⟨by omega, by omega⟩, ?_⟩ | fail)
     all_goals (refine ⟨[], rfl, trivial, ?_⟩; show leR _ (clsX b n due rec); rw [clsX_err hE2 hq]; exact ⟨⟨rfl, rfl, rfl, trivial⟩, rfl, trivial⟩)
   · have hq' := Decidable.not_not.1 hq
     have e1 : postR po (refP n k t) = .tup [.osl 0, I 0] := if_pos hq'
     have e2 : postOb po (refP n k t) = [rowO (postF po (refP n k t)).1] := if_pos hq'
     repeat' ((conv => whnf); first | (refine ⟨fun h => ?_, fun h => ?_⟩ <;> try (exfalso; first | omega | (revert h; decide) | exact h rfl | cases (show true = false from h) | cases (show false = true from h))) | (refine ⟨by omega, fun r hrr => ?_⟩; first | ((have hre : r = encT t := by (first | exact get_row hrr ht | fail)); subst hre)) | (refine ⟨rfl, _, postO_h, (po, refP n k t), (by show po.length ≤ 900000; omega), ⟨leV_refl _, leV_refl _, trivial⟩, (by show rowsO (postOb po (refP n k t)); rw [e2]; trivial), ?_⟩; show norm (shift _ (postR po (refP n k t))) fun r' => setK (St.news _ (postOb po (refP n k t))) _ r' _; rw [e1, e2]) | (refine ⟨(k + 1, (postF po (refP n k t)).1), ⟨?_, by (try dsimp only); omega⟩, [(2, 7)], ⟨⟨rfl, rfl⟩, ⟨rfl, rfl⟩, ⟨rfl, rfl⟩, ⟨rfl, rfl⟩, ⟨rfl, rfl⟩, ⟨rfl, rfl⟩, ⟨rfl, rfl⟩, trivial⟩, ⟨⟨rfl, rfl, rfl⟩, ⟨rfl, rfl, rfl⟩, ⟨rfl, rfl, rfl⟩, ⟨rfl, rfl, rfl⟩, ⟨rfl, rfl, rfl⟩, trivial⟩, rfl, rfl, rfl⟩; (try dsimp only); exact ⟨by omega, by have := postF_len po (refP n k t); omega, by rw [← postAll_go hq', ← hdr]; exact hpo⟩) | refine ⟨⟨by omega, by omega⟩, ?_⟩ | fail)
 · have hdn : (cloT due rec).drop k = [] := drop_end hkl
   rw [hdn] at hpo
   have hE2 : clsE b n due rec = 0 := by rw [hE, ← hpo]; rfl
   have hpo1 : (postAll n 0 (cloT due rec) b.po).1 = po := by rw [← hpo]; rfl
   repeat' ((conv => whnf); (try dsimp only [setL, List.map_cons, List.map_nil, List.take, List.drop, SV.cells, constV, shift, St.new, St.put, kills, killI, Nat.reduceAdd]); first | (refine ⟨fun h => ?_, fun h => ?_⟩ <;> try (exfalso; first | omega | (revert h; decide) | exact h rfl | cases (show true = false from h) | cases (show false = true from h))) | refine get_at hkx ?_ | refine get_at hkx2 ?_ | (refine ⟨_, cloneS_h, due, hd0, leVs_of_eq rfl, .inl rfl, rfl, ?_⟩; show norm (L 2 (due.map encS)) _) | refine ⟨⟨by omega, by omega⟩, ?_⟩ | fail)
   conv => whnf
   refine ⟨[], rfl, trivial, ?_⟩
   show leR _ (clsX b n due rec)
   rw [clsX_ok hE2 hx hpo1]
   exact ⟨⟨(by show leC (.sl 5 (((b.ps.map encP).set (n - 1).toNat (setL (encP x) 3 [CV.bool true])).set (n - 1).toNat (encP (shut x due)))) _; rw [List.set_set]; rfl), rfl, rfl, trivial⟩, rfl, trivial⟩
theorem close_h : Holds Tryz.prog 14 closeS := holds_of mix Tryz.func14 closeLow (fun _ => rfl) closeV
end Go.Proofs.YtjpdaapjnpdiiaaGreat.P
