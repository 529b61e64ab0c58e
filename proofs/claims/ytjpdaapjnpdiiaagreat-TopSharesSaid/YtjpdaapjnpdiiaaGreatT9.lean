/- A part of the proof. -/
import Derived.Test.YtjpdaapjnpdiiaaGreatT6
namespace Go.Proofs.YtjpdaapjnpdiiaaGreat
open Go.RowKit
def rrateIr : IFn := ⟨56, [.tmp 4], (zq [ zl 4 .mov [zi 0]] (zq [ zm 7 0, zm 8 1, zo 9 (.idx 4) [7, 8], zo 10 (.load 4 true) [9], zo 5 (.alloc [.int .i64 0, .int .i64 0, .int .i64 0, .nil]) [], zn (.store 4) [5, 10]] (.seq (zq [ zo 11 (.faddr 0) [5], zo 12 (.load 1 false) [11], zl 13 (.cmp .lss) [.tmp 12, zi 1], zm 14 13, zg 15 (.faddr 0) [5] 14 false, zg 16 (.load 1 false) [15] 14 false, zh 17 (.cmp .gtr) [.tmp 16, zi 9999] 14 false, zl 18 .pick [.tmp 14, zv, .tmp 17], zm 19 18, zg 20 (.faddr 1) [5] 19 false, zg 21 (.load 1 false) [20] 19 false, zh 22 (.cmp .lss) [.tmp 21, zi 1] 19 false, zl 23 .pick [.tmp 19, zv,
 .tmp 22], zm 24 23, zg 25 (.faddr 1) [5] 24 false, zg 26 (.load 1 false) [25] 24 false, zh 27 (.cmp .gtr) [.tmp 26, zi 10000] 24 false, zl 28 .pick [.tmp 24, zv, .tmp 27], zm 29 28, zg 30 (.faddr 2) [5] 29 false, zg 31 (.load 1 false) [30] 29 false, zh 32 (.cmp .lss) [.tmp 31, zi 0] 29 false, zl 33 .pick [.tmp 29, zv, .tmp 32], zm 34 33, zg 35 (.faddr 2) [5] 34 false, zg 36 (.load 1 false) [35] 34 false, zh 37 (.cmp .gtr) [.tmp 36, zi 1000] 34 false, zl 38 .pick [.tmp 34, zv, .tmp 37]] (.cond (.tmp 38) (zq [ zl 4 .mov [zi 2]] .ret) .skip)) (.seq (zq [ zl 6 .mov [zi 0]] (.block 0 (.loop (.seq
 (zq [ zm 39 6, zm 40 1, zo 41 (.cmp .lss) [39, 40]] (.cond (.tmp 41) .skip (.exit 0))) (.seq (.block 1 (.seq (.ops [ zm 44 0, zm 45 6, zo 46 (.idx 4) [44, 45], zo 47 (.faddr 0) [46], zo 48 (.load 1 false) [47], zo 49 (.faddr 0) [5], zo 50 (.load 1 false) [49], zo 51 (.cmp .eql) [48, 50]] true) (.cond (.tmp 51) (zq [ zl 4 .mov [zi 7]] .ret) .skip))) (zp [ zm 42 6, zl 43 (.bin .add .i64 false) [.tmp 42, zi 1], zm 6 43])))))) (.seq (zq [ zo 52 (.faddr 3) [5], zo 53 (.load 1 false) [52], zo 54 (.call 55) [53], zo 55 .not [54]] (.cond (.tmp 55) (zq [ zl 4 .mov [zi 1]] .ret) .skip)) (zq [ zl 4 .mov
 [zi 0]] .ret))))))⟩
theorem rrateLow : lowF Tryz.prog {} Tryz.f22 = some rrateIr := by kernel_rfl
def rrateS : Spec := spec (List Rate × Nat) (fun p => [L 4 (p.1.map encR), I p.2]) (fun p => (p.2 < p.1.length ∧ p.1.length ≤ 9223372036854775807) ∧ ∀ y ∈ p.1, y.peak.length ≤ 9223372036854775807) (fun p => I (rateE p.1 p.2))
theorem rrateV : fnV Tryz.prog rrateIr rrateS := by
 intro ⟨(l : List Rate), (k : Nat)⟩ hx
 obtain ⟨⟨hkl, hll⟩, hpks⟩ : (k < l.length ∧ l.length ≤ 9223372036854775807) ∧ ∀ y ∈ l, y.peak.length ≤ 9223372036854775807 := hx
 have hl : (l.map encR).length = l.length := List.length_map ..
 obtain ⟨x, hx⟩ := getElem_some hkl
 have hpk : x.peak.length ≤ 9223372036854775807 := by have := hpks x (List.mem_of_getElem? hx); omega
 have hE : rateE l k = if ¬ rateP x then 2 else if twiceB l k x.l = true then 7 else if rightF x.peak = false then 1 else 0 := by unfold rateE; rw [at_of hx]
 show vc _ _ _ _ ⟨argEnv 0 [L 4 (l.map encR), I k], [], 0⟩
 by_cases hp : rateP x
 · rw [if_neg (Decidable.not_not.2 hp)] at hE
   have hp' := hp
   unfold rateP at hp'
   repeat' ((conv => whnf); first | (refine ⟨fun h => ?_, fun h => ?_⟩ <;> try (exfalso; first | omega | (revert h; decide) | exact h rfl)) | (refine ⟨by omega, fun r hrr => ?_⟩; first | ((have hre : r = encR x := by (first | exact get_row hrr hx | fail)); subst hre)) | fail)
   refine ⟨Nat, fun xq => ⟨[(0, L 4 (l.map encR)), (1, I k), (5, .bp 0 0), (6, I xq)], [(0, .box ((encR x).map .c))], 1⟩, fun xq => xq ≤ k ∧ ∀ y ∈ l.take xq, decide (y.l = x.l) = false, fun xq => k - xq, ⟨0, ?_, [], ⟨⟨rfl, rfl⟩, ⟨rfl, rfl⟩, ⟨rfl, rfl⟩, ⟨rfl, rfl⟩, trivial⟩, ⟨⟨rfl, rfl, rfl⟩, trivial⟩, rfl, rfl, rfl⟩, ?_⟩
   · (try dsimp only); exact ⟨Nat.zero_le _, by simp⟩
   rintro i hk
   obtain ⟨hi, hn⟩ : i ≤ k ∧ ∀ y ∈ l.take i, decide (y.l = x.l) = false := hk
   (try dsimp only)
   by_cases hik : i < k
   · obtain ⟨y, hy⟩ := getElem_some (show i < l.length by omega)
     by_cases hyx : y.l = x.l
     · repeat' ((conv => whnf); first | (refine ⟨fun h => ?_, fun h => ?_⟩ <;> try (exfalso; first | omega | (revert h; decide) | exact h rfl)) | (refine ⟨by omega, fun r hrr => ?_⟩; first | ((have hre : r = encR y := by (first | exact get_row hrr hy | fail)); subst hre)) | refine ⟨⟨by omega, by omega⟩, ?_⟩ | fail)
       all_goals (refine ⟨[], rfl, trivial, congrArg (CV.int .i64) ?_⟩; exact (hE.trans (if_pos (twice_yes hik hy hyx))).symm)
     · repeat' ((conv => whnf); first | (refine ⟨fun h => ?_, fun h => ?_⟩ <;> try (exfalso; first | omega | (revert h; decide) | exact h rfl)) | (refine ⟨by omega, fun r hrr => ?_⟩; first | ((have hre : r = encR y := by (first | exact get_row hrr hy | fail)); subst hre)) | (refine ⟨i + 1, ⟨?_, by (try dsimp only); omega⟩, [], ⟨⟨rfl, rfl⟩, ⟨rfl, rfl⟩, ⟨rfl, rfl⟩, ⟨rfl, rfl⟩, trivial⟩, ⟨⟨rfl, rfl, rfl⟩, trivial⟩, rfl, rfl, rfl⟩; (try dsimp only); exact ⟨by omega, first_step hy hn (decide_eq_false hyx)⟩) | refine ⟨⟨by omega, by omega⟩, ?_⟩ | fail)
   · have hik : i = k := by omega
     subst hik
     rw [if_neg (by rw [twice_no hn]; decide)] at hE
     cases hr : rightF x.peak with
     | false =>
       repeat' ((conv => whnf); first | (refine ⟨fun h => ?_, fun h => ?_⟩ <;> try (exfalso; first | omega | (revert h; decide) | exact h rfl)) | (refine ⟨_, rright_h, x.peak, hpk, leVs_of_eq rfl, .inl rfl, rfl, ?_⟩; show norm (B (rightF x.peak)) _; rw [hr]) | fail)
       all_goals (refine ⟨[], rfl, trivial, congrArg (CV.int .i64) ?_⟩; exact (hE.trans (if_pos hr)).symm)
     | true =>
       repeat' ((conv => whnf); first | (refine ⟨fun h => ?_, fun h => ?_⟩ <;> try (exfalso; first | omega | (revert h; decide) | exact h rfl)) | (refine ⟨_, rright_h, x.peak, hpk, leVs_of_eq rfl, .inl rfl, rfl, ?_⟩; show norm (B (rightF x.peak)) _; rw [hr]) | fail)
       all_goals (refine ⟨[], rfl, trivial, congrArg (CV.int .i64) ?_⟩; exact (hE.trans (if_neg (by rw [hr]; decide))).symm)
 · have hp' := hp
   unfold rateP at hp'
   repeat' ((conv => whnf); first | (refine ⟨fun h => ?_, fun h => ?_⟩ <;> try (exfalso; first | omega | (revert h; decide) | exact h rfl)) | (refine ⟨by omega, fun r hrr => ?_⟩; first | ((have hre : r = encR x := by (first | exact get_row hrr hx | fail)); subst hre)) | fail)
   all_goals (refine ⟨[], rfl, trivial, congrArg (CV.int .i64) ?_⟩; exact (hE.trans (if_pos hp)).symm)
theorem rrate_h : Holds Tryz.prog 22 rrateS := holds_of mix Tryz.func22 rrateLow (fun _ => rfl) rrateV
def tidxIr : IFn := ⟨21, [.tmp 4], (zq [ zl 4 .mov [zi 0]] (.seq (zq [ zm 6 0, zo 7 .len [6], zl 8 (.bin .sub .i64 false) [.tmp 7, zi 1], zm 5 8] (.block 0 (.loop (.seq (zq [ zm 9 5, zl 10 (.cmp .geq) [.tmp 9, zi 0]] (.cond (.tmp 10) .skip (.exit 0))) (.seq (.block 1 (zq [ zm 13 0, zm 14 5, zo 15 (.idx 2) [13, 14], zo 16 (.faddr 0) [15], zo 17 (.load 1 false) [16], zm 18 1, zo 19 (.cmp .leq) [17, 18]] (.cond (.tmp 19) (zq [ zm 20 5, zm 4 20] .ret) .skip))) (zp [ zm 11 5, zl 12 (.bin .sub .i64 false) [.tmp 11, zi 1], zm 5 12])))))) (zq [ zl 4 .mov [zi (-1)]] .ret)))⟩
theorem tidxLow : lowF Tryz.prog {} Tryz.f81 = some tidxIr := by kernel_rfl
def tidxS : Spec := spec (List Tariff × Int) (fun p => [L 2 (p.1.map encT), I p.2]) (fun p => p.1.length ≤ 1000000) (fun p => I (lastB (inForce p.1 p.2) p.1.length))
theorem tidxV : fnV Tryz.prog tidxIr tidxS := by
 intro ⟨(l : List Tariff), (t : Int)⟩ hx
 replace hx : l.length ≤ 1000000 := hx
 have hl : (l.map encT).length = l.length := List.length_map ..
 show vc _ _ _ _ ⟨argEnv 0 [L 2 (l.map encT), I t], [], 0⟩
 repeat' ((conv => whnf); first | (refine ⟨fun h => ?_, fun h => ?_⟩ <;> try (exfalso; first | omega | (revert h; decide) | exact h rfl)) | refine ⟨⟨by omega, by omega⟩, ?_⟩ | fail)
 refine ⟨Int, fun xq => ⟨[(0, L 2 (l.map encT)), (1, I t), (5, I xq)], [], 0⟩, fun xq => ∃ j : Nat, (xq = (j : Int) - 1 ∧ j ≤ l.length) ∧ lastB (inForce l t) l.length = lastB (inForce l t) j, fun xq => (xq + 1).toNat, ⟨_, ?_, [], ⟨⟨rfl, rfl⟩, ⟨rfl, rfl⟩, ⟨rfl, rfl⟩, trivial⟩, trivial, rfl, rfl, rfl⟩, ?_⟩
 · (try dsimp only); exact ⟨l.length, ⟨by omega, Nat.le_refl _⟩, rfl⟩
 rintro i hk
 obtain ⟨j, ⟨hij, hjl⟩, hT⟩ : ∃ j : Nat, (i = (j : Int) - 1 ∧ j ≤ l.length) ∧ lastB (inForce l t) l.length = lastB (inForce l t) j := hk
 (try dsimp only)
 cases j with
 | zero =>
   repeat' ((conv => whnf); first | (refine ⟨fun h => ?_, fun h => ?_⟩ <;> try (exfalso; first | omega | (revert h; decide) | exact h rfl)) | fail)
   all_goals (refine ⟨[], rfl, trivial, congrArg (CV.int .i64) ?_⟩; exact (hT).symm)
 | succ j =>
   obtain ⟨x, hx⟩ := getElem_some (show j < l.length by omega)
   have hF : inForce l t j = decide (x.frm ≤ t) := by unfold inForce; rw [at_of hx]
   by_cases hle : x.frm ≤ t
   · have hT' := hT.trans (lastB_yes (hF.trans (decide_eq_true hle)))
     have hij' : i = j := by omega
     repeat' ((conv => whnf); first | (refine ⟨fun h => ?_, fun h => ?_⟩ <;> try (exfalso; first | omega | (revert h; decide) | exact h rfl)) | (refine ⟨by omega, fun r hrr => ?_⟩; ((have hre : r = encT x := by (first | exact get_rowi (j := j) hrr (by omega) hx | fail)); subst hre)) | fail)
     all_goals (refine ⟨[], rfl, trivial, congrArg (CV.int .i64) ?_⟩; exact (hT'.trans hij'.symm).symm)
   · repeat' ((conv => whnf); first | (refine ⟨fun h => ?_, fun h => ?_⟩ <;> try (exfalso; first | omega | (revert h; decide) | exact h rfl)) | (refine ⟨by omega, fun r hrr => ?_⟩; ((have hre : r = encT x := by (first | exact get_rowi (j := j) hrr (by omega) hx | fail)); subst hre)) | (refine ⟨_, ⟨?_, by (try dsimp only); omega⟩, [], ⟨⟨rfl, rfl⟩, ⟨rfl, rfl⟩, ⟨rfl, rfl⟩, trivial⟩, trivial, rfl, rfl, rfl⟩; (try dsimp only); exact ⟨j, ⟨by omega, by omega⟩, hT.trans (lastB_no (hF.trans (decide_eq_false hle)))⟩) | refine ⟨⟨by omega, by omega⟩, ?_⟩ | fail)
theorem tidx_h : Holds Tryz.prog 81 tidxS := holds_of mix Tryz.func81 tidxLow (fun _ => rfl) tidxV
end Go.Proofs.YtjpdaapjnpdiiaaGreat
