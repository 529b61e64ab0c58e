/- A part of the proof. -/
import Derived.Test.YtjpdaapjnpdiiaaGreatY1
namespace Go.Proofs.YtjpdaapjnpdiiaaGreat
open Go.RowKit
def amountIr : IFn := ⟨28, [.tmp 4], (zq [ zl 4 .mov [zi 0]] (zq [ zl 5 .mov [zi 0]] (.seq (zq [ zl 6 .mov [zi 0]] (.block 0 (.loop (.seq (zq [ zm 7 6, zm 8 0, zo 9 .len [8], zo 10 (.cmp .lss) [7, 9]] (.cond (.tmp 10) .skip (.exit 0))) (.seq (.block 1 (zq [ zm 13 0, zm 14 6, zo 15 (.idx 2) [13, 14], zo 16 (.faddr 0) [15], zo 17 (.load 1 false) [16], zm 18 1, zo 19 (.cmp .eql) [17, 18]] (.cond (.tmp 19) (zp [ zm 20 5, zm 21 0, zm 22 6, zo 23 (.idx 2) [21, 22], zo 24 (.faddr 1) [23], zo 25 (.load 1 false) [24], zo 26 (.bin .add .i64 false) [20, 25], zm 5 26]) .skip))) (zp [ zm 11 6, zl 12 (.bin .add .i64 false) [.tmp
 11, zi 1], zm 6 12])))))) (zq [ zm 27 5, zm 4 27] .ret))))⟩
theorem amountLow : lowF Tryz.prog {} Tryz.f16 = some amountIr := by kernel_rfl
def amountS : Spec := spec (List Share × Int) (fun p => [L 2 (p.1.map encS), I p.2]) (fun p => (Pos p.1 ∧ sumA p.1 ≤ 1099511627776) ∧ p.1.length ≤ 1000000) (fun p => I (amt p.1 p.2))
theorem amountV : fnV Tryz.prog amountIr amountS := by
 intro ⟨(l : List Share), (o : Int)⟩ hx
 obtain ⟨⟨hp, hs⟩, hll⟩ : (Pos l ∧ sumA l ≤ 1099511627776) ∧ l.length ≤ 1000000 := hx
 have hl : (l.map encS).length = l.length := List.length_map ..
 show vc _ _ _ _ ⟨argEnv 0 [L 2 (l.map encS), I o], [], 0⟩
 conv => whnf
 refine ⟨Nat × Int, fun xq => ⟨[(0, L 2 (l.map encS)), (1, I o), (5, I xq.2), (6, I xq.1)], [], 0⟩, fun xq => xq.1 ≤ l.length ∧ xq.2 = amt (l.take xq.1) o, fun xq => l.length - xq.1, ⟨(0, 0), ?_, [], ⟨⟨rfl, rfl⟩, ⟨rfl, rfl⟩, ⟨rfl, rfl⟩, ⟨rfl, rfl⟩, trivial⟩, trivial, rfl, rfl, rfl⟩, ?_⟩
 · (try dsimp only); exact ⟨Nat.zero_le _, rfl⟩
 rintro ⟨k, n⟩ hk
 obtain ⟨hk, hn⟩ : k ≤ l.length ∧ n = amt (l.take k) o := hk
 (try dsimp only)
 by_cases hkl : k < l.length
 · obtain ⟨x, hx⟩ := getElem_some hkl
   have h1 := (pos_take hp k).amt o
   rw [← hn] at h1
   have h2 := sum_take_le hp k
   have h3 := hp x (List.mem_of_getElem? hx)
   have h4 := mem_le hp x (List.mem_of_getElem? hx)
   have hst := amt_snoc2 o hx
   by_cases hxo : x.o = o
   · rw [if_pos hxo, ← hn] at hst
     repeat' ((conv => whnf); first | (refine ⟨fun h => ?_, fun h => ?_⟩ <;> try (exfalso; first | omega | (revert h; decide) | exact h rfl)) | (refine ⟨by omega, fun r hrr => ?_⟩; first | ((have hre : r = encS x := by (first | exact get_row hrr hx | fail)); subst hre)) | (refine ⟨(k + 1, n + x.a), ⟨?_, by (try dsimp only); omega⟩, [], ⟨⟨rfl, rfl⟩, ⟨rfl, rfl⟩, ⟨rfl, rfl⟩, ⟨rfl, rfl⟩, trivial⟩, trivial, rfl, rfl, rfl⟩; (try dsimp only); exact ⟨by omega, hst.symm⟩) | (refine And.intro (And.intro (by omega) (by omega)) ?_) | fail)
   · rw [if_neg hxo, ← hn, Int.add_zero] at hst
     repeat' ((conv => whnf); first | (refine ⟨fun h => ?_, fun h => ?_⟩ <;> try (exfalso; first | omega | (revert h; decide) | exact h rfl)) | (refine ⟨by omega, fun r hrr => ?_⟩; first | ((have hre : r = encS x := by (first | exact get_row hrr hx | fail)); subst hre)) | (refine ⟨(k + 1, n), ⟨?_, by (try dsimp only); omega⟩, [], ⟨⟨rfl, rfl⟩, ⟨rfl, rfl⟩, ⟨rfl, rfl⟩, ⟨rfl, rfl⟩, trivial⟩, trivial, rfl, rfl, rfl⟩; (try dsimp only); exact ⟨by omega, hst.symm⟩) | (refine And.intro (And.intro (by omega) (by omega)) ?_) | fail)
 · rw [take_end hkl] at hn
   repeat' ((conv => whnf); first | (refine ⟨fun h => ?_, fun h => ?_⟩ <;> try (exfalso; first | omega | (revert h; decide) | exact h rfl)) | fail)
   exact ⟨[], rfl, trivial, congrArg (CV.int .i64) hn⟩
theorem amount_h : Holds Tryz.prog 16 amountS := holds_of mix Tryz.func16 amountLow (fun _ => rfl) amountV
def aliveIr : IFn := ⟨82, [.tmp 0], (zq [ zl 0 .mov [zf]] (zq [ zl 7 (.buildSl 3 1) [zi 2, zi 1], zl 8 (.call 17) [zi 100, .tmp 7], zm 6 8, zo 9 (.extract 0) [6], zo 10 (.extract 1) [6], zm 1 9, zm 2 10] (zq [ zo 12 (.build [.nil, .nil, .nil] []) [], zl 13 (.call 13) [.tmp 12, zi 100], zm 11 13, zo 14 (.extract 0) [11], zo 15 (.extract 1) [11], zo 3 (.alloc [.nil, .nil, .nil]) [], zn (.store 3) [3, 14], zm 4 15] (zq [ zo 17 (.load 3 true) [3], zl 18 (.build [.int .i64 0, .int .i64 0] [(0, 1), (1, 1)]) [zi 1, zi 7], zo 19 (.buildSl 47 2) [18], zl 20 (.build [.int .i64 0, .int .i64 0] [(0, 1), (1, 1)]) [zi 2, zi 7],
 zo 21 (.buildSl 47 2) [20], zl 22 (.call 14) [.tmp 17, zi 1, .tmp 19, .tmp 21], zm 16 22, zo 23 (.extract 0) [16], zo 24 (.extract 1) [16], zn (.store 3) [3, 23], zm 5 24] (zq [ zm 25 2, zl 26 (.cmp .eql) [.tmp 25, zi 0], zm 27 26, zw 28 1 27 true, zg 29 .len [28] 27 true, zh 30 (.cmp .eql) [.tmp 29, zi 2] 27 true, zl 31 .pick [.tmp 27, .tmp 30, zf], zm 32 31, zw 33 1 32 true, zh 34 (.idx 1) [.tmp 33, zi 0] 32 true, zg 35 (.load 1 false) [34] 32 true, zh 36 (.cmp .eql) [.tmp 35, zi 67] 32 true, zl 37 .pick [.tmp 32, .tmp 36, zf], zm 38 37, zw 39 1 38 true, zh 40 (.idx 1) [.tmp 39, zi 1] 38
 true, zg 41 (.load 1 false) [40] 38 true, zh 42 (.cmp .eql) [.tmp 41, zi 33] 38 true, zl 43 .pick [.tmp 38, .tmp 42, zf], zm 44 43, zw 45 4 44 true, zh 46 (.cmp .eql) [.tmp 45, zi 0] 44 true, zl 47 .pick [.tmp 44, .tmp 46, zf], zm 48 47, zw 49 5 48 true, zh 50 (.cmp .eql) [.tmp 49, zi 0] 48 true, zl 51 .pick [.tmp 48, .tmp 50, zf], zm 52 51, zg 53 (.faddr 1) [3] 52 true, zg 54 (.load 1 false) [53] 52 true, zg 55 .len [54] 52 true, zh 56 (.cmp .eql) [.tmp 55, zi 1] 52 true, zl 57 .pick [.tmp 52, .tmp 56, zf], zm 58 57, zg 59 (.faddr 1) [3] 58 true, zg 60 (.load 1 false) [59] 58 true, zh 61 (.idx
 4) [.tmp 60, zi 0] 58 true, zg 62 (.faddr 1) [61] 58 true, zg 63 (.load 1 false) [62] 58 true, zh 64 (.cmp .eql) [.tmp 63, zi 2] 58 true, zl 65 .pick [.tmp 58, .tmp 64, zf], zm 66 65, zg 67 (.faddr 1) [3] 66 true, zg 68 (.load 1 false) [67] 66 true, zh 69 (.idx 4) [.tmp 68, zi 0] 66 true, zg 70 (.faddr 2) [69] 66 true, zg 71 (.load 1 false) [70] 66 true, zh 72 (.cmp .eql) [.tmp 71, zi 1] 66 true, zl 73 .pick [.tmp 66, .tmp 72, zf], zm 74 73, zg 75 (.faddr 1) [3] 74 true, zg 76 (.load 1 false) [75] 74 true, zh 77 (.idx 4) [.tmp 76, zi 0] 74 true, zg 78 (.faddr 3) [77] 74 true, zg 79 (.load 1
 false) [78] 74 true, zh 80 (.cmp .eql) [.tmp 79, zi 7] 74 true, zl 81 .pick [.tmp 74, .tmp 80, zf], zm 0 81] .ret)))))⟩
theorem aliveLow : lowF Tryz.prog {} Tryz.f4 = some aliveIr := by kernel_rfl
def aliveS : Spec := spec Unit (fun _ => []) (fun _ => True) (fun _ => B true)
set_option maxHeartbeats 4000000 in
set_option maxRecDepth 20000 in
theorem aliveV : fnV Tryz.prog aliveIr aliveS := by
 intro _ _
 show vc _ _ _ _ ⟨argEnv 0 [], [], 0⟩
 repeat' ((conv => whnf); first | (refine ⟨fun h => ?_, fun h => ?_⟩ <;> try (exfalso; first | omega | (revert h; decide) | exact h rfl)) | (refine ⟨_, split_h, (100, [2, 1]), (Nat.le_of_ble_eq_true rfl), ⟨rfl, rfl, trivial⟩, .inl rfl, rfl, ?_⟩; show norm (splT 100 [2, 1]) _; rw [ev_spl]; show norm (.tup [L 1 ([67, 33].map e1), I 0]) _) | (refine ⟨_, P.begin_h, (P.bk0, 100), (by show P.smB P.bk0; decide +kernel), ⟨⟨rfl, rfl, rfl, trivial⟩, rfl, trivial⟩, .inl rfl, rfl, ?_⟩; show norm (.tup [P.aB (P.beginB P.bk0 100), I (P.beginE P.bk0 100)]) _; rw [bkB_beg.1, bkB_beg.2]) | (refine ⟨_, P.close_h, (bkB, 1, [⟨1, 7⟩], [⟨2, 7⟩]), (by show P.clsP bkB [⟨1, 7⟩] [⟨2, 7⟩]; exact ⟨⟨by decide +kernel, by decide +kernel⟩, by decide +kernel, by decide +kernel⟩), ⟨⟨rfl, rfl, rfl, trivial⟩, rfl, rfl, rfl, trivial⟩, .inl rfl, rfl, ?_⟩; show norm (P.clsX bkB 1 [⟨1, 7⟩] [⟨2, 7⟩]) _; rw [bkC_cls]) | (refine And.intro ⟨by decide, by decide⟩ ?_; intro r hrr; cases hrr) | exact ⟨[], rfl, trivial, rfl⟩ | fail)
theorem alive_h : Holds Tryz.prog 4 aliveS := holds_of mix Tryz.func4 aliveLow (fun _ => rfl) aliveV
end Go.Proofs.YtjpdaapjnpdiiaaGreat
