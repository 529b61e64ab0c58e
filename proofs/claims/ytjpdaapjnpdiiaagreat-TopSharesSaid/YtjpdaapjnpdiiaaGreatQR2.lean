/- A part of the proof. -/
import Derived.Test.YtjpdaapjnpdiiaaGreatQR1
import Derived.Test.YtjpdaapjnpdiiaaGreatQF9
namespace Go.Proofs.YtjpdaapjnpdiiaaGreat.P
open Go.RowKit
abbrev encD (r : Ride) : List CV := [.int .i64 r.gate, .int .i64 r.seq, .int .i64 r.serial, .int .i64 r.counter, .int .i64 r.product, .int .i64 r.lift, .int .i64 r.time]
abbrev aD (r : Ride) : SV := .agg ((encD r).map .c)
abbrev encO (r : Pst) : List CV := [.int .i64 r.ref, .int .i64 r.fr, .int .i64 r.to, .int .i64 r.am]
abbrev aO (r : Pst) : SV := .agg ((encO r).map .c)
abbrev encP (p : Per) : List CV := [.int .i64 p.num, .int .i64 p.fr, .int .i64 p.to, .bool p.cl, .sl 2 (p.sh.map encS)]
abbrev encC (c : Cnt) : List CV := .int .i64 c.per :: encD c.r
abbrev aB (b : Bk) : SV := .agg [L 5 (b.ps.map encP), L 4 (b.po.map encO), L 8 (b.rs.map encC)]
abbrev bB' (b : Bk) : Ob := .box [L 5 (b.ps.map encP), L 4 (b.po.map encO), L 8 (b.rs.map encC)]
def okB (b : Bk) : Prop := (b.ps.length ≤ 9223372036854775807 ∧ b.po.length ≤ 9223372036854775807) ∧ b.rs.length ≤ 9223372036854775807 ∧ ∀ p ∈ b.ps, p.sh.length ≤ 9223372036854775807
theorem acc_no {l : List Share} {k : Nat} (hk : k < l.length) (h0 : fe (accE l) k = 0) (h : accE l k = 1) : accB l = false := decide_eq_false (by rw [fe_hit hk h0 h (by decide)]; decide)
theorem acc_yes {l : List Share} (h0 : fe (accE l) l.length = 0) : accB l = true := decide_eq_true h0
def accIr : IFn := ⟨44, [.tmp 2], (zq [ zl 2 .mov [zf]] (.seq (zq [ zm 5 0, zo 6 .len [5], zl 7 .mov [zi 0]] (.block 0 (.loop (zq [ zo 8 (.cmp .lss) [7, 6]] (.seq (.cond (.tmp 8) .skip (.exit 0)) (.seq (.block 1 (zq [ zm 9 7, zo 10 (.idx 2) [5, 7], zo 11 (.load 2 true) [10], zo 4 (.alloc [.int .i64 0, .int .i64 0]) [], zm 3 9, zn (.store 2) [4, 11]] (.seq (zq [ zo 12 (.faddr 0) [4], zo 13 (.load 1 false) [12], zl 14 (.cmp .lss) [.tmp 13, zi 1], zm 15 14, zg 16 (.faddr 0) [4] 15 false, zg 17 (.load 1 false) [16] 15 false, zh 18 (.cmp .gtr) [.tmp 17, zi 8] 15 false, zl 19 .pick [.tmp 15, zv, .tmp 18], zm 20 19, zg
 21 (.faddr 1) [4] 20 false, zg 22 (.load 1 false) [21] 20 false, zh 23 (.cmp .lss) [.tmp 22, zi 0] 20 false, zl 24 .pick [.tmp 20, zv, .tmp 23], zm 25 24, zg 26 (.faddr 1) [4] 25 false, zg 27 (.load 1 false) [26] 25 false, zh 28 (.cmp .gtr) [.tmp 27, zi 137438953472] 25 false, zl 29 .pick [.tmp 25, zv, .tmp 28]] (.cond (.tmp 29) (zq [ zl 2 .mov [zf]] .ret) .skip)) (.seq (.ops [ zm 30 3, zl 31 (.cmp .gtr) [.tmp 30, zi 0], zm 32 31, zg 33 (.faddr 0) [4] 32 true, zg 34 (.load 1 false) [33] 32 true, zw 35 0 32 true, zw 36 3 32 true, zh 37 (.bin .sub .i64 false) [.tmp 36, zi 1] 32 true, zg 38 (.idx
 2) [35, 37] 32 true, zg 39 (.faddr 0) [38] 32 true, zg 40 (.load 1 false) [39] 32 true, zg 41 (.cmp .leq) [34, 40] 32 true, zl 42 .pick [.tmp 32, .tmp 41, zf]] true) (.cond (.tmp 42) (zq [ zl 2 .mov [zf]] .ret) .skip))))) (zp [ zl 43 (.bin .add .i64 false) [.tmp 7, zi 1], zm 7 43]))))))) (zq [ zl 2 .mov [zv]] .ret)))⟩
theorem accLow : lowF Tryz.prog {} Tryz.f36 = some accIr := by kernel_rfl
def accS : Spec := spec (List Share) (fun l => [L 2 (l.map encS)]) (fun l => l.length ≤ 9223372036854775807) (fun l => B (accB l))
theorem accV : fnV Tryz.prog accIr accS := by
 intro (l : List Share) hx
 replace hx : l.length ≤ 9223372036854775807 := hx
 have hl : (l.map encS).length = l.length := List.length_map ..
 show vc _ _ _ _ ⟨argEnv 0 [L 2 (l.map encS)], [], 0⟩
 conv => whnf
 refine ⟨Nat, fun xq => ⟨[(0, L 2 (l.map encS)), (5, L 2 (l.map encS)), (6, I (l.map encS).length), (7, I xq)], [], 0⟩, fun xq => xq ≤ l.length ∧ fe (accE l) xq = 0, fun xq => l.length - xq, ⟨0, ?_, [], ⟨⟨rfl, rfl⟩, ⟨rfl, rfl⟩, ⟨rfl, rfl⟩, ⟨rfl, rfl⟩, trivial⟩, trivial, rfl, rfl, rfl⟩, ?_⟩
 · (try dsimp only); exact ⟨Nat.zero_le _, rfl⟩
 rintro k hk
 obtain ⟨hk, h0⟩ : k ≤ l.length ∧ fe (accE l) k = 0 := hk
 (try dsimp only)
 by_cases hkl : k < l.length
 · obtain ⟨x, hx⟩ := getElem_some hkl
   have hE : accE l k = if ¬ accP x then 1 else if 0 < k ∧ x.o ≤ (at_ l share0 (k - 1)).o then 1 else 0 := by unfold accE; rw [at_of hx]
   have hp : accP x = ((1 ≤ x.o ∧ x.o ≤ 8) ∧ 0 ≤ x.a ∧ x.a ≤ 137438953472) := rfl
   by_cases hb : accP x
   · rw [if_neg (Decidable.not_not.2 hb)] at hE
     rw [hp] at hb
     by_cases hk0 : k = 0
     · subst hk0
       repeat' ((conv => whnf); first | (refine ⟨fun h => ?_, fun h => ?_⟩ <;> try (exfalso; first | omega | (revert h; decide) | exact h rfl | cases (show true = false from h) | cases (show false = true from h))) | (refine ⟨by omega, fun r hrr => ?_⟩; first | ((have hre : r = encS x := by (first | exact get_row hrr hx | fail)); subst hre)) | (refine ⟨_ + 1, ⟨?_, by (try dsimp only); omega⟩, [], ⟨⟨rfl, rfl⟩, ⟨rfl, rfl⟩, ⟨rfl, rfl⟩, ⟨rfl, rfl⟩, trivial⟩, trivial, rfl, rfl, rfl⟩; (try dsimp only); exact ⟨by omega, fe_go h0 (hE.trans (if_neg (by omega)))⟩) | refine ⟨⟨by omega, by omega⟩, ?_⟩ | fail)
     · obtain ⟨y, hy⟩ := getElem_some (show k - 1 < l.length by omega)
       rw [at_of hy] at hE
       by_cases hle : x.o ≤ y.o
       · repeat' ((conv => whnf); first | (refine ⟨fun h => ?_, fun h => ?_⟩ <;> try (exfalso; first | omega | (revert h; decide) | exact h rfl | cases (show true = false from h) | cases (show false = true from h))) | (refine ⟨by omega, fun r hrr => ?_⟩; first | ((have hre : r = encS x := by (first | exact get_row hrr hx | fail)); subst hre) | ((have hre : r = encS y := by (first | exact get_rowi (j := k - 1) hrr (by omega) hy | fail)); subst hre)) | refine ⟨⟨by omega, by omega⟩, ?_⟩ | fail)
         all_goals (refine ⟨[], rfl, trivial, congrArg CV.bool ?_⟩; exact (acc_no hkl h0 (hE.trans (if_pos ⟨by omega, hle⟩))).symm)
       · repeat' ((conv => whnf); first | (refine ⟨fun h => ?_, fun h => ?_⟩ <;> try (exfalso; first | omega | (revert h; decide) | exact h rfl | cases (show true = false from h) | cases (show false = true from h))) | (refine ⟨by omega, fun r hrr => ?_⟩; first | ((have hre : r = encS x := by (first | exact get_row hrr hx | fail)); subst hre) | ((have hre : r = encS y := by (first | exact get_rowi (j := k - 1) hrr (by omega) hy | fail)); subst hre)) | (refine ⟨k + 1, ⟨?_, by (try dsimp only); omega⟩, [], ⟨⟨rfl, rfl⟩, ⟨rfl, rfl⟩, ⟨rfl, rfl⟩, ⟨rfl, rfl⟩, trivial⟩, trivial, rfl, rfl, rfl⟩; (try dsimp only); exact ⟨by omega, fe_go h0 (hE.trans (if_neg (by omega)))⟩) | refine ⟨⟨by omega, by omega⟩, ?_⟩ | fail)
   · have hE1 := hE.trans (if_pos hb)
     rw [hp] at hb
     repeat' ((conv => whnf); first | (refine ⟨fun h => ?_, fun h => ?_⟩ <;> try (exfalso; first | omega | (revert h; decide) | exact h rfl | cases (show true = false from h) | cases (show false = true from h))) | (refine ⟨by omega, fun r hrr => ?_⟩; first | ((have hre : r = encS x := by (first | exact get_row hrr hx | fail)); subst hre)) | fail)
     all_goals (refine ⟨[], rfl, trivial, congrArg CV.bool ?_⟩; exact (acc_no hkl h0 hE1).symm)
 · have hkn : k = l.length := by omega
   subst hkn
   repeat' ((conv => whnf); first | (refine ⟨fun h => ?_, fun h => ?_⟩ <;> try (exfalso; first | omega | (revert h; decide) | exact h rfl | cases (show true = false from h) | cases (show false = true from h))) | fail)
   all_goals (refine ⟨[], rfl, trivial, congrArg CV.bool ?_⟩; exact (acc_yes h0).symm)
theorem acc_h : Holds Tryz.prog 36 accS := holds_of mix Tryz.func36 accLow (fun _ => rfl) accV
def raccIr : IFn := ⟨58, [.tmp 2], (zq [ zl 2 .mov [zf]] (.seq (zq [ zl 3 .mov [zi 0]] (.block 0 (.loop (.seq (zq [ zm 4 3, zm 5 0, zo 6 .len [5], zo 7 (.cmp .lss) [4, 6]] (.cond (.tmp 7) .skip (.exit 0))) (.seq (.block 1 (.seq (.ops [ zm 10 0, zm 11 3, zo 12 (.idx 2) [10, 11], zo 13 (.faddr 0) [12], zo 14 (.load 1 false) [13], zl 15 (.cmp .lss) [.tmp 14, zi 1], zm 16 15, zw 17 0 16 false, zw 18 3 16 false, zg 19 (.idx 2) [17, 18] 16 false, zg 20 (.faddr 0) [19] 16 false, zg 21 (.load 1 false) [20] 16 false, zh 22 (.cmp .gtr) [.tmp 21, zi 8] 16 false, zl 23 .pick [.tmp 16, zv, .tmp 22], zm 24 23, zw 25 0 24 false,
 zw 26 3 24 false, zg 27 (.idx 2) [25, 26] 24 false, zg 28 (.faddr 1) [27] 24 false, zg 29 (.load 1 false) [28] 24 false, zh 30 (.cmp .lss) [.tmp 29, zi 0] 24 false, zl 31 .pick [.tmp 24, zv, .tmp 30], zm 32 31, zw 33 0 32 false, zw 34 3 32 false, zg 35 (.idx 2) [33, 34] 32 false, zg 36 (.faddr 1) [35] 32 false, zg 37 (.load 1 false) [36] 32 false, zh 38 (.cmp .gtr) [.tmp 37, zi 137438953472] 32 false, zl 39 .pick [.tmp 32, zv, .tmp 38], zm 40 39, zw 41 3 40 false, zh 42 (.cmp .gtr) [.tmp 41, zi 0] 40 false, zw 43 42 40 false, zw 44 0 43 true, zw 45 3 43 true, zg 46 (.idx 2) [44, 45] 43 true, zg
 47 (.faddr 0) [46] 43 true, zg 48 (.load 1 false) [47] 43 true, zw 49 0 43 true, zw 50 3 43 true, zh 51 (.bin .sub .i64 false) [.tmp 50, zi 1] 43 true, zg 52 (.idx 2) [49, 51] 43 true, zg 53 (.faddr 0) [52] 43 true, zg 54 (.load 1 false) [53] 43 true, zg 55 (.cmp .leq) [48, 54] 43 true, zh 56 .pick [.tmp 43, .tmp 55, zf] 40 false, zl 57 .pick [.tmp 40, zv, .tmp 56]] true) (.cond (.tmp 57) (zq [ zl 2 .mov [zf]] .ret) .skip))) (zp [ zm 8 3, zl 9 (.bin .add .i64 false) [.tmp 8, zi 1], zm 3 9])))))) (zq [ zl 2 .mov [zv]] .ret)))⟩
theorem raccLow : lowF Tryz.prog {} Tryz.f74 = some raccIr := by kernel_rfl
def raccS : Spec := spec (List Share) (fun l => [L 2 (l.map encS)]) (fun l => l.length ≤ 9223372036854775807) (fun l => B (accB l))
theorem raccV : fnV Tryz.prog raccIr raccS := by
 intro (l : List Share) hx
 replace hx : l.length ≤ 9223372036854775807 := hx
 have hl : (l.map encS).length = l.length := List.length_map ..
 show vc _ _ _ _ ⟨argEnv 0 [L 2 (l.map encS)], [], 0⟩
 conv => whnf
 refine ⟨Nat, fun xq => ⟨[(0, L 2 (l.map encS)), (3, I xq)], [], 0⟩, fun xq => xq ≤ l.length ∧ fe (accE l) xq = 0, fun xq => l.length - xq, ⟨0, ?_, [], ⟨⟨rfl, rfl⟩, ⟨rfl, rfl⟩, trivial⟩, trivial, rfl, rfl, rfl⟩, ?_⟩
 · (try dsimp only); exact ⟨Nat.zero_le _, rfl⟩
 rintro k hk
 obtain ⟨hk, h0⟩ : k ≤ l.length ∧ fe (accE l) k = 0 := hk
 (try dsimp only)
 by_cases hkl : k < l.length
 · obtain ⟨x, hx⟩ := getElem_some hkl
   have hE : accE l k = if ¬ accP x then 1 else if 0 < k ∧ x.o ≤ (at_ l share0 (k - 1)).o then 1 else 0 := by unfold accE; rw [at_of hx]
   have hp : accP x = ((1 ≤ x.o ∧ x.o ≤ 8) ∧ 0 ≤ x.a ∧ x.a ≤ 137438953472) := rfl
   by_cases hb : accP x
   · rw [if_neg (Decidable.not_not.2 hb)] at hE
     rw [hp] at hb
     by_cases hk0 : k = 0
     · subst hk0
       repeat' ((conv => whnf); first | (refine ⟨fun h => ?_, fun h => ?_⟩ <;> try (exfalso; first | omega | (revert h; decide) | exact h rfl | cases (show true = false from h) | cases (show false = true from h))) | (refine ⟨by omega, fun r hrr => ?_⟩; first | ((have hre : r = encS x := by (first | exact get_row hrr hx | fail)); subst hre)) | (refine ⟨_ + 1, ⟨?_, by (try dsimp only); omega⟩, [], ⟨⟨rfl, rfl⟩, ⟨rfl, rfl⟩, trivial⟩, trivial, rfl, rfl, rfl⟩; (try dsimp only); exact ⟨by omega, fe_go h0 (hE.trans (if_neg (by omega)))⟩) | refine ⟨⟨by omega, by omega⟩, ?_⟩ | fail)
     · obtain ⟨y, hy⟩ := getElem_some (show k - 1 < l.length by omega)
       rw [at_of hy] at hE
       by_cases hle : x.o ≤ y.o
       · repeat' ((conv => whnf); first | (refine ⟨fun h => ?_, fun h => ?_⟩ <;> try (exfalso; first | omega | (revert h; decide) | exact h rfl | cases (show true = false from h) | cases (show false = true from h))) | (refine ⟨by omega, fun r hrr => ?_⟩; first | ((have hre : r = encS x := by (first | exact get_row hrr hx | fail)); subst hre) | ((have hre : r = encS y := by (first | exact get_rowi (j := k - 1) hrr (by omega) hy | fail)); subst hre)) | refine ⟨⟨by omega, by omega⟩, ?_⟩ | fail)
         all_goals (refine ⟨[], rfl, trivial, congrArg CV.bool ?_⟩; exact (acc_no hkl h0 (hE.trans (if_pos ⟨by omega, hle⟩))).symm)
       · repeat' ((conv => whnf); first | (refine ⟨fun h => ?_, fun h => ?_⟩ <;> try (exfalso; first | omega | (revert h; decide) | exact h rfl | cases (show true = false from h) | cases (show false = true from h))) | (refine ⟨by omega, fun r hrr => ?_⟩; first | ((have hre : r = encS x := by (first | exact get_row hrr hx | fail)); subst hre) | ((have hre : r = encS y := by (first | exact get_rowi (j := k - 1) hrr (by omega) hy | fail)); subst hre)) | (refine ⟨k + 1, ⟨?_, by (try dsimp only); omega⟩, [], ⟨⟨rfl, rfl⟩, ⟨rfl, rfl⟩, trivial⟩, trivial, rfl, rfl, rfl⟩; (try dsimp only); exact ⟨by omega, fe_go h0 (hE.trans (if_neg (by omega)))⟩) | refine ⟨⟨by omega, by omega⟩, ?_⟩ | fail)
   · have hE1 := hE.trans (if_pos hb)
     rw [hp] at hb
     repeat' ((conv => whnf); first | (refine ⟨fun h => ?_, fun h => ?_⟩ <;> try (exfalso; first | omega | (revert h; decide) | exact h rfl | cases (show true = false from h) | cases (show false = true from h))) | (refine ⟨by omega, fun r hrr => ?_⟩; first | ((have hre : r = encS x := by (first | exact get_row hrr hx | fail)); subst hre)) | fail)
     all_goals (refine ⟨[], rfl, trivial, congrArg CV.bool ?_⟩; exact (acc_no hkl h0 hE1).symm)
 · have hkn : k = l.length := by omega
   subst hkn
   repeat' ((conv => whnf); first | (refine ⟨fun h => ?_, fun h => ?_⟩ <;> try (exfalso; first | omega | (revert h; decide) | exact h rfl | cases (show true = false from h) | cases (show false = true from h))) | fail)
   all_goals (refine ⟨[], rfl, trivial, congrArg CV.bool ?_⟩; exact (acc_yes h0).symm)
theorem racc_h : Holds Tryz.prog 74 raccS := holds_of mix Tryz.func74 raccLow (fun _ => rfl) raccV
def rrangesIr : IFn := ⟨71, [.tmp 2], (zq [ zo 1 .box [0], zl 2 .mov [zf]] (zq [ zo 3 (.faddr 0) [1], zo 4 (.load 1 false) [3], zl 5 (.cmp .geq) [.tmp 4, zi 1], zm 6 5, zg 7 (.faddr 0) [1] 6 true, zg 8 (.load 1 false) [7] 6 true, zh 9 (.cmp .leq) [.tmp 8, zi 9999] 6 true, zl 10 .pick [.tmp 6, .tmp 9, zf], zm 11 10, zg 12 (.faddr 2) [1] 11 true, zg 13 (.load 1 false) [12] 11 true, zh 14 (.cmp .geq) [.tmp 13, zi 1] 11 true, zl 15 .pick [.tmp 11, .tmp 14, zf], zm 16 15, zg 17 (.faddr 2) [1] 16 true, zg 18 (.load 1 false) [17] 16 true, zh 19 (.cmp .leq) [.tmp 18, zi 9999] 16 true, zl 20 .pick [.tmp 16, .tmp 19, zf], zm
 21 20, zg 22 (.faddr 4) [1] 21 true, zg 23 (.load 1 false) [22] 21 true, zh 24 (.cmp .geq) [.tmp 23, zi 1] 21 true, zl 25 .pick [.tmp 21, .tmp 24, zf], zm 26 25, zg 27 (.faddr 4) [1] 26 true, zg 28 (.load 1 false) [27] 26 true, zh 29 (.cmp .leq) [.tmp 28, zi 9999] 26 true, zl 30 .pick [.tmp 26, .tmp 29, zf], zm 31 30, zg 32 (.faddr 5) [1] 31 true, zg 33 (.load 1 false) [32] 31 true, zh 34 (.cmp .geq) [.tmp 33, zi 1] 31 true, zl 35 .pick [.tmp 31, .tmp 34, zf], zm 36 35, zg 37 (.faddr 5) [1] 36 true, zg 38 (.load 1 false) [37] 36 true, zh 39 (.cmp .leq) [.tmp 38, zi 9999] 36 true, zl 40 .pick
 [.tmp 36, .tmp 39, zf], zm 41 40, zg 42 (.faddr 1) [1] 41 true, zg 43 (.load 1 false) [42] 41 true, zh 44 (.cmp .geq) [.tmp 43, zi 1] 41 true, zl 45 .pick [.tmp 41, .tmp 44, zf], zm 46 45, zg 47 (.faddr 1) [1] 46 true, zg 48 (.load 1 false) [47] 46 true, zh 49 (.cmp .leq) [.tmp 48, zi 1000000] 46 true, zl 50 .pick [.tmp 46, .tmp 49, zf], zm 51 50, zg 52 (.faddr 3) [1] 51 true, zg 53 (.load 1 false) [52] 51 true, zh 54 (.cmp .geq) [.tmp 53, zi 1] 51 true, zl 55 .pick [.tmp 51, .tmp 54, zf], zm 56 55, zg 57 (.faddr 3) [1] 56 true, zg 58 (.load 1 false) [57] 56 true, zh 59 (.cmp .leq) [.tmp 58, zi
 1000000] 56 true, zl 60 .pick [.tmp 56, .tmp 59, zf], zm 61 60, zg 62 (.faddr 6) [1] 61 true, zg 63 (.load 1 false) [62] 61 true, zh 64 (.cmp .geq) [.tmp 63, zi 0] 61 true, zl 65 .pick [.tmp 61, .tmp 64, zf], zm 66 65, zg 67 (.faddr 6) [1] 66 true, zg 68 (.load 1 false) [67] 66 true, zh 69 (.cmp .leq) [.tmp 68, zi 20000000] 66 true, zl 70 .pick [.tmp 66, .tmp 69, zf], zm 2 70] .ret))⟩
theorem rrangesLow : lowF Tryz.prog {} Tryz.f23 = some rrangesIr := by kernel_rfl
def rrangesS : Spec := spec Ride (fun x => [aD x]) (fun _ => True) (fun x => B (decide (rideP x)))
theorem rrangesV : fnV Tryz.prog rrangesIr rrangesS := by
 intro (x : Ride) _
 show vc _ _ _ _ ⟨argEnv 0 [aD x], [], 0⟩
 have hp : rideP x = ((1 ≤ x.gate ∧ x.gate ≤ 9999) ∧ (1 ≤ x.serial ∧ x.serial ≤ 9999) ∧ (1 ≤ x.product ∧ x.product ≤ 9999) ∧ (1 ≤ x.lift ∧ x.lift ≤ 9999) ∧ (1 ≤ x.seq ∧ x.seq ≤ 1000000) ∧ (1 ≤ x.counter ∧ x.counter ≤ 1000000) ∧ 0 ≤ x.time ∧ x.time ≤ 20000000) := rfl
 repeat' ((conv => whnf); first | (refine ⟨fun h => ?_, fun h => ?_⟩ <;> try (exfalso; first | omega | (revert h; decide) | exact h rfl | cases (show true = false from h) | cases (show false = true from h))) | refine ⟨[], rfl, trivial, congrArg CV.bool ?_⟩ | fail)
 all_goals first | exact (decide_eq_true (by rw [hp]; omega)).symm | exact (decide_eq_false (by rw [hp]; omega)).symm
theorem rranges_h : Holds Tryz.prog 23 rrangesS := holds_of mix Tryz.func23 rrangesLow (fun _ => rfl) rrangesV
def roneIr : IFn := ⟨34, [.tmp 2], (zq [ zl 2 .mov [zi 0]] (.seq (zq [ zm 4 0, zo 5 .len [4], zl 6 (.cmp .gtr) [.tmp 5, zi 2000]] (.cond (.tmp 6) (zq [ zl 2 .mov [zi 4]] .ret) .skip)) (.seq (zq [ zl 3 .mov [zi 0]] (.block 0 (.loop (.seq (zq [ zm 7 3, zm 8 0, zo 9 .len [8], zo 10 (.cmp .lss) [7, 9]] (.cond (.tmp 10) .skip (.exit 0))) (.seq (.block 1 (.seq (zq [ zm 13 0, zm 14 3, zo 15 (.idx 7) [13, 14], zo 16 (.load 7 true) [15], zo 17 (.call 23) [16], zo 18 .not [17]] (.cond (.tmp 18) (zq [ zl 2 .mov [zi 2]] .ret) .skip)) (.seq (.ops [ zm 19 3, zl 20 (.cmp .gtr) [.tmp 19, zi 0], zm 21 20, zw 22 0 21 true, zw 23 3
 21 true, zh 24 (.bin .sub .i64 false) [.tmp 23, zi 1] 21 true, zg 25 (.idx 7) [22, 24] 21 true, zg 26 (.load 7 true) [25] 21 true, zw 27 0 21 true, zw 28 3 21 true, zg 29 (.idx 7) [27, 28] 21 true, zg 30 (.load 7 true) [29] 21 true, zg 31 (.call 24) [26, 30] 21 true, zg 32 .not [31] 21 true, zl 33 .pick [.tmp 21, .tmp 32, zf]] true) (.cond (.tmp 33) (zq [ zl 2 .mov [zi 11]] .ret) .skip)))) (zp [ zm 11 3, zl 12 (.bin .add .i64 false) [.tmp 11, zi 1], zm 3 12])))))) (zq [ zl 2 .mov [zi 0]] .ret))))⟩
theorem roneLow : lowF Tryz.prog {} Tryz.f7 = some roneIr := by kernel_rfl
def roneS : Spec := spec Ride (fun x => [L 7 ([x].map encD)]) (fun _ => True) (fun x => I (if rideP x then 0 else 2))
theorem roneV : fnV Tryz.prog roneIr roneS := by
 intro (x : Ride) _
 show vc _ _ _ _ ⟨argEnv 0 [L 7 ([x].map encD)], [], 0⟩
 have hl : ([x].map encD).length = 1 := rfl
 have hx : [x][0]? = some x := rfl
 repeat' ((conv => whnf); first | (refine ⟨fun h => ?_, fun h => ?_⟩ <;> try (exfalso; first | omega | (revert h; decide) | exact h rfl | cases (show true = false from h) | cases (show false = true from h))) | fail)
 refine ⟨Nat, fun xq => ⟨[(0, L 7 ([x].map encD)), (3, I xq)], [], 0⟩, fun xq => xq ≤ 1 ∧ (0 < xq → rideP x), fun xq => 1 - xq, ⟨0, ?_, [], ⟨⟨rfl, rfl⟩, ⟨rfl, rfl⟩, trivial⟩, trivial, rfl, rfl, rfl⟩, ?_⟩
 · (try dsimp only); exact ⟨by omega, fun h => absurd h (by omega)⟩
 rintro k hk
 obtain ⟨hk, h0⟩ : k ≤ 1 ∧ (0 < k → rideP x) := hk
 (try dsimp only)
 by_cases hk0 : k = 0
 · subst hk0
   cases hd : decide (rideP x) with
   | false =>
     repeat' ((conv => whnf); first | (refine ⟨fun h => ?_, fun h => ?_⟩ <;> try (exfalso; first | omega | (revert h; decide) | exact h rfl | cases (show true = false from h) | cases (show false = true from h))) | (refine ⟨by omega, fun r hrr => ?_⟩; first | ((have hre : r = encD x := by (first | exact get_row hrr hx | fail)); subst hre)) | (refine ⟨_, rranges_h, x, trivial, leVs_of_eq rfl, .inl rfl, rfl, ?_⟩; show norm (B (decide (rideP x))) _; rw [hd]) | fail)
     all_goals (refine ⟨[], rfl, trivial, congrArg (CV.int .i64) ?_⟩; exact (if_neg (of_decide_eq_false hd)).symm)
   | true =>
     repeat' ((conv => whnf); first | (refine ⟨fun h => ?_, fun h => ?_⟩ <;> try (exfalso; first | omega | (revert h; decide) | exact h rfl | cases (show true = false from h) | cases (show false = true from h))) | (refine ⟨by omega, fun r hrr => ?_⟩; first | ((have hre : r = encD x := by (first | exact get_row hrr hx | fail)); subst hre)) | (refine ⟨_, rranges_h, x, trivial, leVs_of_eq rfl, .inl rfl, rfl, ?_⟩; show norm (B (decide (rideP x))) _; rw [hd]) | (refine ⟨1, ⟨?_, by (try dsimp only); omega⟩, [], ⟨⟨rfl, rfl⟩, ⟨rfl, rfl⟩, trivial⟩, trivial, rfl, rfl, rfl⟩; (try dsimp only); exact ⟨by omega, fun _ => of_decide_eq_true hd⟩) | refine ⟨⟨by omega, by omega⟩, ?_⟩ | fail)
 · repeat' ((conv => whnf); first | (refine ⟨fun h => ?_, fun h => ?_⟩ <;> try (exfalso; first | omega | (revert h; decide) | exact h rfl | cases (show true = false from h) | cases (show false = true from h))) | fail)
   all_goals (refine ⟨[], rfl, trivial, congrArg (CV.int .i64) ?_⟩; exact (if_pos (h0 (by omega))).symm)
theorem rone_h : Holds Tryz.prog 7 roneS := holds_of mix Tryz.func7 roneLow (fun _ => rfl) roneV
def aloneIr : IFn := ⟨7, [.tmp 2], (zq [ zo 1 .box [0], zl 2 .mov [zf]] (zq [ zo 3 (.load 7 true) [1], zo 4 (.buildSl 70 7) [3], zo 5 (.call 7) [4], zl 6 (.cmp .eql) [.tmp 5, zi 0], zm 2 6] .ret))⟩
theorem aloneLow : lowF Tryz.prog {} Tryz.f44 = some aloneIr := by kernel_rfl
def aloneS : Spec := spec Ride (fun x => [aD x]) (fun _ => True) (fun x => B (decide (rideP x)))
theorem aloneV : fnV Tryz.prog aloneIr aloneS := by
 intro (x : Ride) _
 show vc _ _ _ _ ⟨argEnv 0 [aD x], [], 0⟩
 by_cases hb : rideP x
 · repeat' ((conv => whnf); first | (refine ⟨fun h => ?_, fun h => ?_⟩ <;> try (exfalso; first | omega | (revert h; decide) | exact h rfl | cases (show true = false from h) | cases (show false = true from h))) | (refine ⟨_, rone_h, x, trivial, leVs_of_eq rfl, .inl rfl, rfl, ?_⟩; show norm (I (if rideP x then 0 else 2)) _; rw [if_pos hb]) | fail)
   all_goals (refine ⟨[], rfl, trivial, congrArg CV.bool ?_⟩; exact (decide_eq_true hb).symm)
 · repeat' ((conv => whnf); first | (refine ⟨fun h => ?_, fun h => ?_⟩ <;> try (exfalso; first | omega | (revert h; decide) | exact h rfl | cases (show true = false from h) | cases (show false = true from h))) | (refine ⟨_, rone_h, x, trivial, leVs_of_eq rfl, .inl rfl, rfl, ?_⟩; show norm (I (if rideP x then 0 else 2)) _; rw [if_neg hb]) | fail)
   all_goals (refine ⟨[], rfl, trivial, congrArg CV.bool ?_⟩; exact (decide_eq_false hb).symm)
theorem alone_h : Holds Tryz.prog 44 aloneS := holds_of mix Tryz.func44 aloneLow (fun _ => rfl) aloneV
def endpIr : IFn := ⟨14, [.tmp 2], (zq [ zl 2 .mov [zi 0]] (.seq (zq [ zm 3 0, zo 4 .len [3], zl 5 (.cmp .eql) [.tmp 4, zi 0]] (.cond (.tmp 5) (zq [ zl 2 .mov [zi 0]] .ret) .skip)) (zq [ zm 6 0, zm 7 0, zo 8 .len [7], zl 9 (.bin .sub .i64 false) [.tmp 8, zi 1], zo 10 (.idx 5) [6, 9], zo 11 (.faddr 1) [10], zo 12 (.faddr 1) [11], zo 13 (.load 1 false) [12], zm 2 13] .ret)))⟩
theorem endpLow : lowF Tryz.prog {} Tryz.f33 = some endpIr := by kernel_rfl
def endpS : Spec := spec (List Per) (fun l => [L 5 (l.map encP)]) (fun l => l.length ≤ 9223372036854775807) (fun l => I (endOf l))
theorem endpV : fnV Tryz.prog endpIr endpS := by
 intro (l : List Per) hx
 replace hx : l.length ≤ 9223372036854775807 := hx
 have hl : (l.map encP).length = l.length := List.length_map ..
 show vc _ _ _ _ ⟨argEnv 0 [L 5 (l.map encP)], [], 0⟩
 by_cases h0 : l.length = 0
 · repeat' ((conv => whnf); first | (refine ⟨fun h => ?_, fun h => ?_⟩ <;> try (exfalso; first | omega | (revert h; decide) | exact h rfl | cases (show true = false from h) | cases (show false = true from h))) | fail)
   all_goals (refine ⟨[], rfl, trivial, congrArg (CV.int .i64) ?_⟩; exact ((show endOf l = 0 by rw [List.eq_nil_of_length_eq_zero h0]; rfl)).symm)
 · obtain ⟨x, hx⟩ := getElem_some (show l.length - 1 < l.length by omega)
   have he : endOf l = x.to := by unfold endOf; rw [List.getLast?_eq_getElem?, hx]
   repeat' ((conv => whnf); first | (refine ⟨fun h => ?_, fun h => ?_⟩ <;> try (exfalso; first | omega | (revert h; decide) | exact h rfl | cases (show true = false from h) | cases (show false = true from h))) | (refine ⟨by omega, fun r hrr => ?_⟩; first | ((have hre : r = encP x := by (first | exact get_rowi (j := l.length - 1) hrr (by omega) hx | fail)); subst hre)) | refine ⟨⟨by omega, by omega⟩, ?_⟩ | fail)
   all_goals (refine ⟨[], rfl, trivial, congrArg (CV.int .i64) ?_⟩; exact (he).symm)
theorem endp_h : Holds Tryz.prog 33 endpS := holds_of mix Tryz.func33 endpLow (fun _ => rfl) endpV
def rendIr : IFn := ⟨14, [.tmp 2], (zq [ zl 2 .mov [zi 0]] (.seq (zq [ zm 3 0, zo 4 .len [3], zl 5 (.cmp .eql) [.tmp 4, zi 0]] (.cond (.tmp 5) (zq [ zl 2 .mov [zi 0]] .ret) .skip)) (zq [ zm 6 0, zm 7 0, zo 8 .len [7], zl 9 (.bin .sub .i64 false) [.tmp 8, zi 1], zo 10 (.idx 5) [6, 9], zo 11 (.faddr 1) [10], zo 12 (.faddr 1) [11], zo 13 (.load 1 false) [12], zm 2 13] .ret)))⟩
theorem rendLow : lowF Tryz.prog {} Tryz.f72 = some rendIr := by kernel_rfl
def rendS : Spec := spec (List Per) (fun l => [L 5 (l.map encP)]) (fun l => l.length ≤ 9223372036854775807) (fun l => I (endOf l))
theorem rendV : fnV Tryz.prog rendIr rendS := by
 intro (l : List Per) hx
 replace hx : l.length ≤ 9223372036854775807 := hx
 have hl : (l.map encP).length = l.length := List.length_map ..
 show vc _ _ _ _ ⟨argEnv 0 [L 5 (l.map encP)], [], 0⟩
 by_cases h0 : l.length = 0
 · repeat' ((conv => whnf); first | (refine ⟨fun h => ?_, fun h => ?_⟩ <;> try (exfalso; first | omega | (revert h; decide) | exact h rfl | cases (show true = false from h) | cases (show false = true from h))) | fail)
   all_goals (refine ⟨[], rfl, trivial, congrArg (CV.int .i64) ?_⟩; exact ((show endOf l = 0 by rw [List.eq_nil_of_length_eq_zero h0]; rfl)).symm)
 · obtain ⟨x, hx⟩ := getElem_some (show l.length - 1 < l.length by omega)
   have he : endOf l = x.to := by unfold endOf; rw [List.getLast?_eq_getElem?, hx]
   repeat' ((conv => whnf); first | (refine ⟨fun h => ?_, fun h => ?_⟩ <;> try (exfalso; first | omega | (revert h; decide) | exact h rfl | cases (show true = false from h) | cases (show false = true from h))) | (refine ⟨by omega, fun r hrr => ?_⟩; first | ((have hre : r = encP x := by (first | exact get_rowi (j := l.length - 1) hrr (by omega) hx | fail)); subst hre)) | refine ⟨⟨by omega, by omega⟩, ?_⟩ | fail)
   all_goals (refine ⟨[], rfl, trivial, congrArg (CV.int .i64) ?_⟩; exact (he).symm)
theorem rend_h : Holds Tryz.prog 72 rendS := holds_of mix Tryz.func72 rendLow (fun _ => rfl) rendV
end Go.Proofs.YtjpdaapjnpdiiaaGreat.P
