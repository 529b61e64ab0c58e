/- A part of the proof. -/
import Derived.Test.YtjpdaapjnpdiiaaGreatTD
import Derived.Test.YtjpdaapjnpdiiaaGreatS5
namespace Go.Proofs.YtjpdaapjnpdiiaaGreat
open Go.RowKit
def pointsIr : IFn := ⟨56, [.tmp 8], (zq [ zo 4 .box [0], zl 8 .mov [zx]] (zq [ zl 14 (.mksl 3 1 8 [.int .i64 0]) [zi 8, zi 8], zm 9 14] (.seq (zq [ zm 15 2, zo 16 .len [15], zl 17 .mov [zi 0]] (.block 0 (.loop (zq [ zo 18 (.cmp .lss) [17, 16]] (.seq (.cond (.tmp 18) .skip (.exit 0)) (.seq (.block 1 (zq [ zo 19 (.idx 7) [15, 17], zo 20 (.load 7 true) [19], zo 11 (.alloc [.int .i64 0, .int .i64 0, .int .i64 0, .int .i64 0, .int .i64 0, .int .i64 0, .int .i64 0]) [], zn (.store 7) [11, 20]] (.seq (zq [ zo 21 (.faddr 2) [11], zo 22 (.load 1 false) [21], zm 23 3, zo 24 (.cmp .neq) [22, 23]] (.cond (.tmp 24) (.exit 1)
 .skip)) (zq [ zo 26 (.load 4 true) [4], zo 27 (.faddr 5) [11], zo 28 (.load 1 false) [27], zo 29 (.call 56) [26, 28], zm 25 29, zo 30 (.extract 0) [25], zo 31 (.extract 1) [25], zo 12 (.alloc [.int .i64 0, .int .i64 0, .int .i64 0, .int .i64 0, .int .i64 0, .int .i64 0, .int .i64 0, .int .i64 0]) [], zn (.store 8) [12, 30], zm 13 31] (zq [ zm 32 13, zm 33 32, zg 34 (.faddr 1) [12] 33 true, zg 35 (.load 1 false) [34] 33 true, zh 36 (.cmp .geq) [.tmp 35, zi 1] 33 true, zl 37 .pick [.tmp 33, .tmp 36, zf], zm 38 37, zg 39 (.faddr 1) [12] 38 true, zg 40 (.load 1 false) [39] 38 true, zh 41 (.cmp
 .leq) [.tmp 40, zi 8] 38 true, zl 42 .pick [.tmp 38, .tmp 41, zf]] (.cond (.tmp 42) (.ops [ zm 43 9, zo 44 (.faddr 1) [12], zo 45 (.load 1 false) [44], zl 46 (.bin .sub .i64 false) [.tmp 45, zi 1], zo 47 (.idx 1) [43, 46], zo 48 (.load 1 false) [47], zm 49 1, zo 50 (.load 7 true) [11], zo 51 (.call 57) [49, 50], zo 52 (.bin .add .i64 false) [48, 51], zo 53 (.idx 1) [43, 46], zn (.store 1) [53, 52]] true) .skip)))))) (zp [ zl 54 (.bin .add .i64 false) [.tmp 17, zi 1], zm 17 54]))))))) (zq [ zm 55 9, zm 8 55] .ret))))⟩
theorem pointsLow : lowF Tryz.prog { owns := [(9, 3)] } Tryz.f27 = some pointsIr := by kernel_rfl
def pointsS : Spec := ⟨Mp × List Tariff × List Ride × Int, fun p => [aM p.1, L 2 (p.2.1.map encT), L 7 (p.2.2.1.map encD), I p.2.2.2], fun p => (okM p.1 ∧ p.2.1.length ≤ 1000000) ∧ Rates p.2.1 ∧ p.2.2.1.length ≤ 100000, fun p => L 1 ((ptsAll p.1 p.2.1 p.2.2.1 p.2.2.2).map e1), fun _ => []⟩
set_option maxHeartbeats 2000000 in
theorem pointsV : fnV Tryz.prog pointsIr pointsS := by
 intro ⟨(m : Mp), (l : List Tariff), (rides : List Ride), (serial : Int)⟩ hx
 obtain ⟨⟨hm, hll⟩, hR, hlr⟩ : (okM m ∧ l.length ≤ 1000000) ∧ Rates l ∧ rides.length ≤ 100000 := hx
 have hl : (rides.map encD).length = rides.length := List.length_map ..
 show vc _ _ _ _ ⟨argEnv 0 [aM m, L 2 (l.map encT), L 7 (rides.map encD), I serial], [], 0⟩
 repeat' ((conv => whnf); first | (refine ⟨fun h => ?_, fun h => ?_⟩ <;> try (exfalso; first | omega | (revert h; decide) | exact h rfl)) | (refine ⟨⟨by decide, by decide⟩, ?_⟩) | (refine ⟨⟨by decide, by decide, by decide⟩, ?_⟩) | refine ⟨⟨by omega, by omega⟩, ?_⟩ | fail)
 refine ⟨Nat × (List (List CV)), fun xq => ⟨[(1, L 2 (l.map encT)), (3, I serial), (4, .bp 0 0), (9, .osl 1), (15, L 7 (rides.map encD)), (16, I (rides.map encD).length), (17, I xq.1)], [(0, .box [L 2 (m.nodes.map encN), L 8 (m.lifts.map encL), L 7 (m.runs.map encU), L 1 (m.bases.map e1)]), (1, .row 3 1 xq.2)], 2⟩, fun xq => xq.1 ≤ rides.length ∧ xq.2 = (ptsAll m l (rides.take xq.1) serial).map e1, fun xq => rides.length - xq.1, ⟨(0, _), ?_, [], ⟨⟨rfl, rfl⟩, ⟨rfl, rfl⟩, ⟨rfl, rfl⟩, ⟨rfl, rfl⟩, ⟨rfl, rfl⟩, ⟨rfl, rfl⟩, ⟨rfl, rfl⟩, trivial⟩, ⟨⟨rfl, rfl, rfl⟩, ⟨rfl, rfl, rfl⟩, trivial⟩, rfl, rfl, rfl⟩, ?_⟩
 · (try dsimp only); exact ⟨Nat.zero_le _, rfl⟩
 rintro ⟨k, ps⟩ hk
 obtain ⟨hk, rfl⟩ : k ≤ rides.length ∧ ps = (ptsAll m l (rides.take k) serial).map e1 := hk
 (try dsimp only)
 have hp8 : ((ptsAll m l (rides.take k) serial).map e1).length = 8 := by rw [List.length_map, ptsAll_len]
 by_cases hkl : k < rides.length
 · obtain ⟨x, hx⟩ := getElem_some hkl
   have hst : ptsAll m l (rides.take (k + 1)) serial = ptStep m l serial (ptsAll m l (rides.take k) serial) x := by rw [take_snoc _ k x hx, ptsAll_snoc]
   have hpb := pts_bnd hR x
   by_cases hs : x.serial = serial
   · cases hf : liftOf m x.lift with
     | none =>
       repeat' ((conv => whnf); first | (refine ⟨fun h => ?_, fun h => ?_⟩ <;> try (exfalso; first | omega | (revert h; decide) | exact h rfl)) | (refine ⟨by omega, fun r hrr => ?_⟩; first | ((have hre : r = encD x := by (first | exact get_row hrr hx | fail)); subst hre)) | (refine ⟨_, lift_h, (m, x.lift), hm, leVs_of_eq rfl, .inl rfl, rfl, ?_⟩; show norm (foundT encL lift0 (liftOf m x.lift)) _; rw [hf]; show norm (.tup [aL lift0, B false]) _) | (refine ⟨(k + 1, _), ⟨?_, by (try dsimp only); omega⟩, [], ⟨⟨rfl, rfl⟩, ⟨rfl, rfl⟩, ⟨rfl, rfl⟩, ⟨rfl, rfl⟩, ⟨rfl, rfl⟩, ⟨rfl, rfl⟩, ⟨rfl, rfl⟩, trivial⟩, ⟨⟨rfl, rfl, rfl⟩, ⟨rfl, rfl, rfl⟩, trivial⟩, rfl, rfl, rfl⟩; (try dsimp only); exact ⟨by omega, by rw [hst, ptStep_none hf]⟩) | refine ⟨⟨by omega, by omega⟩, ?_⟩ | fail)
     | some y =>
       by_cases ho : 1 ≤ y.op ∧ y.op ≤ 8
       · obtain ⟨v, hv⟩ := getElem_some (xs := (ptsAll m l (rides.take k) serial)) (k := (y.op - 1).toNat) (by rw [ptsAll_len]; omega)
         have hvb := ptsAll_bnd hR serial (rides.take k) v (List.mem_of_getElem? hv)
         rw [List.length_take] at hvb
         have gv : ((ptsAll m l (rides.take k) serial).map e1)[(y.op - 1).toNat]? = some [.int .i64 v] := get_e1 hv
         have hset : ((ptsAll m l (rides.take k) serial).map e1).set (y.op - 1).toNat [.int .i64 (v + ptsF l x)] = (ptsAll m l (rides.take (k + 1)) serial).map e1 := by rw [map_set1, hst, ptStep_in hs hf ho hv]
         repeat' ((conv => whnf); first | (refine ⟨fun h => ?_, fun h => ?_⟩ <;> try (exfalso; first | omega | (revert h; decide) | exact h rfl)) | (refine ⟨by omega, fun r hrr => ?_⟩; first | ((have hre : r = encD x := by (first | exact get_row hrr hx | fail)); subst hre)) | (refine ⟨_, lift_h, (m, x.lift), hm, leVs_of_eq rfl, .inl rfl, rfl, ?_⟩; show norm (foundT encL lift0 (liftOf m x.lift)) _; rw [hf]; show norm (.tup [aL y, B true]) _) | (refine ⟨_, pts_h, (l, x), ⟨hll, hR⟩, leVs_of_eq rfl, .inl rfl, rfl, ?_⟩; show norm (I (ptsF l x)) _) | refine get_at gv ?_ | (refine ⟨(k + 1, _), ⟨?_, by (try dsimp only); omega⟩, [], ⟨⟨rfl, rfl⟩, ⟨rfl, rfl⟩, ⟨rfl, rfl⟩, ⟨rfl, rfl⟩, ⟨rfl, rfl⟩, ⟨rfl, rfl⟩, ⟨rfl, rfl⟩, trivial⟩, ⟨⟨rfl, rfl, rfl⟩, ⟨rfl, rfl, rfl⟩, trivial⟩, rfl, rfl, rfl⟩; (try dsimp only); exact ⟨by omega, hset⟩) | refine ⟨⟨by omega, by omega⟩, ?_⟩ | fail)
       · repeat' ((conv => whnf); first | (refine ⟨fun h => ?_, fun h => ?_⟩ <;> try (exfalso; first | omega | (revert h; decide) | exact h rfl)) | (refine ⟨by omega, fun r hrr => ?_⟩; first | ((have hre : r = encD x := by (first | exact get_row hrr hx | fail)); subst hre)) | (refine ⟨_, lift_h, (m, x.lift), hm, leVs_of_eq rfl, .inl rfl, rfl, ?_⟩; show norm (foundT encL lift0 (liftOf m x.lift)) _; rw [hf]; show norm (.tup [aL y, B true]) _) | (refine ⟨(k + 1, _), ⟨?_, by (try dsimp only); omega⟩, [], ⟨⟨rfl, rfl⟩, ⟨rfl, rfl⟩, ⟨rfl, rfl⟩, ⟨rfl, rfl⟩, ⟨rfl, rfl⟩, ⟨rfl, rfl⟩, ⟨rfl, rfl⟩, trivial⟩, ⟨⟨rfl, rfl, rfl⟩, ⟨rfl, rfl, rfl⟩, trivial⟩, rfl, rfl, rfl⟩; (try dsimp only); exact ⟨by omega, by rw [hst, ptStep_out hf ho]⟩) | refine ⟨⟨by omega, by omega⟩, ?_⟩ | fail)
   · repeat' ((conv => whnf); first | (refine ⟨fun h => ?_, fun h => ?_⟩ <;> try (exfalso; first | omega | (revert h; decide) | exact h rfl)) | (refine ⟨by omega, fun r hrr => ?_⟩; first | ((have hre : r = encD x := by (first | exact get_row hrr hx | fail)); subst hre)) | (refine ⟨(k + 1, _), ⟨?_, by (try dsimp only); omega⟩, [], ⟨⟨rfl, rfl⟩, ⟨rfl, rfl⟩, ⟨rfl, rfl⟩, ⟨rfl, rfl⟩, ⟨rfl, rfl⟩, ⟨rfl, rfl⟩, ⟨rfl, rfl⟩, trivial⟩, ⟨⟨rfl, rfl, rfl⟩, ⟨rfl, rfl, rfl⟩, trivial⟩, rfl, rfl, rfl⟩; (try dsimp only); exact ⟨by omega, by rw [hst, ptStep_no hs]⟩) | refine ⟨⟨by omega, by omega⟩, ?_⟩ | fail)
 · rw [take_end hkl]
   repeat' ((conv => whnf); first | (refine ⟨fun h => ?_, fun h => ?_⟩ <;> try (exfalso; first | omega | (revert h; decide) | exact h rfl)) | fail)
   exact ⟨[], rfl, trivial, rfl⟩
theorem points_h : Holds Tryz.prog 27 pointsS := holds_of mix Tryz.func27 pointsLow (fun _ => rfl) pointsV
end Go.Proofs.YtjpdaapjnpdiiaaGreat
