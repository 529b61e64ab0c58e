/- A part of the proof. -/
import Derived.Test.YtjpdaapjnpdiiaaGreatT9
namespace Go.Proofs.YtjpdaapjnpdiiaaGreat
open Go.RowKit
def ptsIr : IFn := ⟨46, [.tmp 4], (zq [ zo 3 .box [1], zl 4 .mov [zi 0]] (zq [ zm 8 0, zo 9 (.faddr 6) [3], zo 10 (.load 1 false) [9], zo 11 (.call 81) [8, 10], zm 5 11] (.seq (zq [ zm 12 5, zl 13 (.cmp .lss) [.tmp 12, zi 0]] (.cond (.tmp 13) (zq [ zl 4 .mov [zi 0]] .ret) .skip)) (.seq (zq [ zm 14 0, zm 15 5, zo 16 (.idx 2) [14, 15], zo 17 (.faddr 1) [16], zo 18 (.load 1 false) [17], zo 19 .len [18], zl 20 .mov [zi 0]] (.block 0 (.loop (zq [ zo 21 (.cmp .lss) [20, 19]] (.seq (.cond (.tmp 21) .skip (.exit 0)) (.seq (.block 1 (zq [ zo 22 (.idx 4) [18, 20], zo 23 (.load 4 true) [22], zo 7 (.alloc [.int .i64 0, .int
 .i64 0, .int .i64 0, .nil]) [], zn (.store 4) [7, 23]] (.seq (zq [ zo 24 (.faddr 0) [7], zo 25 (.load 1 false) [24], zo 26 (.faddr 5) [3], zo 27 (.load 1 false) [26], zo 28 (.cmp .neq) [25, 27]] (.cond (.tmp 28) (.exit 1) .skip)) (.seq (zq [ zo 29 (.faddr 3) [7], zo 30 (.load 1 false) [29], zo 31 (.faddr 6) [3], zo 32 (.load 1 false) [31], zo 33 (.call 82) [30, 32]] (.cond (.tmp 33) (zq [ zo 34 (.faddr 1) [7], zo 35 (.load 1 false) [34], zo 36 (.faddr 1) [7], zo 37 (.load 1 false) [36], zo 38 (.faddr 2) [7], zo 39 (.load 1 false) [38], zo 40 (.bin .mul .i64 false) [37, 39], zl 41 (.bin .quo
 .i64 false) [.tmp 40, zi 1000], zo 42 (.bin .add .i64 false) [35, 41], zm 4 42] .ret) .skip)) (zq [ zo 43 (.faddr 1) [7], zo 44 (.load 1 false) [43], zm 4 44] .ret))))) (zp [ zl 45 (.bin .add .i64 false) [.tmp 20, zi 1], zm 20 45]))))))) (zq [ zl 4 .mov [zi 0]] .ret)))))⟩
theorem ptsLow : lowF Tryz.prog {} Tryz.f57 = some ptsIr := by kernel_rfl
def ptsS : Spec := spec (List Tariff × Ride) (fun p => [L 2 (p.1.map encT), aD p.2]) (fun p => p.1.length ≤ 1000000 ∧ Rates p.1) (fun p => I (ptsF p.1 p.2))
theorem ptsV : fnV Tryz.prog ptsIr ptsS := by
 intro ⟨(l : List Tariff), (r : Ride)⟩ hx
 obtain ⟨hll, hR⟩ : l.length ≤ 1000000 ∧ Rates l := hx
 have hl : (l.map encT).length = l.length := List.length_map ..
 show vc _ _ _ _ ⟨argEnv 0 [L 2 (l.map encT), aD r], [], 0⟩
 rcases last_at l r.time l.length with ⟨hi, h⟩ | ⟨i, ⟨hil, hi⟩, h⟩
 · have hP : ptsF l r = 0 := by unfold ptsF; rw [h]
   repeat' ((conv => whnf); first | (refine ⟨fun h => ?_, fun h => ?_⟩ <;> try (exfalso; first | omega | (revert h; decide) | exact h rfl)) | (refine ⟨_, tidx_h, (l, r.time), hll, leVs_of_eq rfl, .inl rfl, rfl, ?_⟩; show norm (I (lastB (inForce l r.time) l.length)) _; rw [hi]) | fail)
   all_goals (refine ⟨[], rfl, trivial, congrArg (CV.int .i64) ?_⟩; exact (hP).symm)
 · obtain ⟨T, hT⟩ := getElem_some hil
   obtain ⟨hrl, hrt⟩ := hR T (List.mem_of_getElem? hT)
   have hpt : ptsF l r = ptsR T.rates r.lift r.time := by unfold ptsF; rw [h, at_of hT]
   have hlr : (T.rates.map encR).length = T.rates.length := List.length_map ..
   repeat' ((conv => whnf); first | (refine ⟨fun h => ?_, fun h => ?_⟩ <;> try (exfalso; first | omega | (revert h; decide) | exact h rfl)) | (refine ⟨_, tidx_h, (l, r.time), hll, leVs_of_eq rfl, .inl rfl, rfl, ?_⟩; show norm (I (lastB (inForce l r.time) l.length)) _; rw [hi]) | (refine ⟨by omega, fun q hrr => ?_⟩; ((have hre : q = encT T := by (first | exact get_row hrr hT | fail)); subst hre)) | fail)
   refine ⟨Nat, fun xq => ⟨[(3, .bp 0 0), (18, L 4 (T.rates.map encR)), (19, I (T.rates.map encR).length), (20, I xq)], [(0, .box ((encD r).map .c))], 1⟩, fun xq => xq ≤ T.rates.length ∧ ∀ y ∈ T.rates.take xq, decide (y.l = r.lift) = false, fun xq => T.rates.length - xq, ⟨0, ?_, [], ⟨⟨rfl, rfl⟩, ⟨rfl, rfl⟩, ⟨rfl, rfl⟩, ⟨rfl, rfl⟩, trivial⟩, ⟨⟨rfl, rfl, rfl⟩, trivial⟩, rfl, rfl, rfl⟩, ?_⟩
   · (try dsimp only); exact ⟨Nat.zero_le _, by simp⟩
   rintro k hk
   obtain ⟨hk, hn⟩ : k ≤ T.rates.length ∧ ∀ y ∈ T.rates.take k, decide (y.l = r.lift) = false := hk
   (try dsimp only)
   by_cases hkl : k < T.rates.length
   · obtain ⟨x, hx⟩ := getElem_some hkl
     obtain ⟨⟨p0, p1⟩, ⟨x0, x1⟩, hpk0⟩ := hrt x (List.mem_of_getElem? hx)
     have hpk : x.peak.length ≤ 9223372036854775807 := by omega
     have m0 : 0 ≤ x.p * x.x := Int.mul_nonneg p0 x0
     have m1 : x.p * x.x ≤ 10000 * x.x := Int.mul_le_mul_of_nonneg_right p1 x0
     have hdv : (x.p * x.x).tdiv 1000 = x.p * x.x / 1000 := Int.tdiv_eq_ediv_of_nonneg m0
     by_cases hxl : x.l = r.lift
     · have hP := hpt.trans (pts_some (t := r.time) hx hn hxl)
       cases hd : decide (inP x.peak r.time) with
       | true =>
         rw [if_pos (of_decide_eq_true hd)] at hP
         repeat' ((conv => whnf); first | (refine ⟨fun h => ?_, fun h => ?_⟩ <;> try (exfalso; first | omega | (revert h; decide) | exact h rfl)) | (refine ⟨by omega, fun r hrr => ?_⟩; first | ((have hre : r = encR x := by (first | exact get_row hrr hx | fail)); subst hre)) | (refine ⟨_, inn_h, (x.peak, r.time), hpk, leVs_of_eq rfl, .inl rfl, rfl, ?_⟩; show norm (B (decide (inP x.peak r.time))) _; rw [hd]) | (refine ⟨⟨by decide, by rw [hdv]; constructor <;> omega⟩, ?_⟩; rw [hdv]) | refine ⟨⟨by omega, by omega⟩, ?_⟩ | fail)
         all_goals (refine ⟨[], rfl, trivial, congrArg (CV.int .i64) ?_⟩; exact (hP).symm)
       | false =>
         rw [if_neg (of_decide_eq_false hd)] at hP
         repeat' ((conv => whnf); first | (refine ⟨fun h => ?_, fun h => ?_⟩ <;> try (exfalso; first | omega | (revert h; decide) | exact h rfl)) | (refine ⟨by omega, fun r hrr => ?_⟩; first | ((have hre : r = encR x := by (first | exact get_row hrr hx | fail)); subst hre)) | (refine ⟨_, inn_h, (x.peak, r.time), hpk, leVs_of_eq rfl, .inl rfl, rfl, ?_⟩; show norm (B (decide (inP x.peak r.time))) _; rw [hd]) | (refine ⟨⟨by decide, by rw [hdv]; constructor <;> omega⟩, ?_⟩; rw [hdv]) | refine ⟨⟨by omega, by omega⟩, ?_⟩ | fail)
         all_goals (refine ⟨[], rfl, trivial, congrArg (CV.int .i64) ?_⟩; exact (hP).symm)
     · repeat' ((conv => whnf); first | (refine ⟨fun h => ?_, fun h => ?_⟩ <;> try (exfalso; first | omega | (revert h; decide) | exact h rfl)) | (refine ⟨by omega, fun r hrr => ?_⟩; first | ((have hre : r = encR x := by (first | exact get_row hrr hx | fail)); subst hre)) | (refine ⟨k + 1, ⟨?_, by (try dsimp only); omega⟩, [], ⟨⟨rfl, rfl⟩, ⟨rfl, rfl⟩, ⟨rfl, rfl⟩, ⟨rfl, rfl⟩, trivial⟩, ⟨⟨rfl, rfl, rfl⟩, trivial⟩, rfl, rfl, rfl⟩; (try dsimp only); exact ⟨by omega, first_step hx hn (decide_eq_false hxl)⟩) | refine ⟨⟨by omega, by omega⟩, ?_⟩ | fail)
   · rw [take_end hkl] at hn
     repeat' ((conv => whnf); first | (refine ⟨fun h => ?_, fun h => ?_⟩ <;> try (exfalso; first | omega | (revert h; decide) | exact h rfl)) | fail)
     all_goals (refine ⟨[], rfl, trivial, congrArg (CV.int .i64) ?_⟩; exact (hpt.trans (pts_none hn)).symm)
theorem pts_h : Holds Tryz.prog 57 ptsS := holds_of mix Tryz.func57 ptsLow (fun _ => rfl) ptsV
end Go.Proofs.YtjpdaapjnpdiiaaGreat
