/- A part of the proof. -/
import Derived.Test.YtjpdaapjnpdiiaaGreatQRE
namespace Go.Proofs.YtjpdaapjnpdiiaaGreat.P
open Go.RowKit
def idxO (l : List Pst) (p : Pst) : Int := match fidx (fun y => decide (p = y)) l with
 | some i => i
 | none => -1
theorem idxO_mem {l : List Pst} {p : Pst} : decide (p ∈ l) = decide (0 ≤ idxO l p) := by
 unfold idxO
 cases h : fidx (fun y => decide (p = y)) l with
 | none =>
   have hn := fidx_no h
   rw [decide_eq_false (fun hm : p ∈ l => by have := hn p hm; simp at this)]
   exact (decide_eq_false (by dsimp only; omega)).symm
 | some i =>
   obtain ⟨x, hx, hp, _⟩ := fidx_some h
   have e : p = x := of_decide_eq_true hp
   rw [decide_eq_true (show p ∈ l by rw [e]; exact List.mem_of_getElem? hx)]
   exact (decide_eq_true (by dsimp only; omega)).symm
def idxoIr : IFn := ⟨19, [.tmp 4], (zq [ zo 3 .box [1], zl 4 .mov [zi 0]] (.seq (zq [ zm 6 0, zo 7 .len [6], zl 8 .mov [zi 0]] (.block 0 (.loop (zq [ zo 9 (.cmp .lss) [8, 7]] (.seq (.cond (.tmp 9) .skip (.exit 0)) (.seq (.block 1 (zq [ zm 10 8, zm 5 10] (.seq (.ops [ zo 11 (.load 4 true) [3], zm 12 0, zm 13 5, zo 14 (.idx 4) [12, 13], zo 15 (.load 4 true) [14], zo 16 (.eqa [false, false, false, false] false) [11, 15]] true) (.cond (.tmp 16) (zq [ zm 17 5, zm 4 17] .ret) .skip)))) (zp [ zl 18 (.bin .add .i64 false) [.tmp 8, zi 1], zm 8 18]))))))) (zq [ zl 4 .mov [zi (-1)]] .ret)))⟩
theorem idxoLow : lowF Tryz.prog {} Tryz.f94 = some idxoIr := by kernel_rfl
def idxoS : Spec := spec (List Pst × Pst) (fun p => [L 4 (p.1.map encO), aO p.2]) (fun p => p.1.length ≤ 9223372036854775807) (fun p => I (idxO p.1 p.2))
theorem idxoV : fnV Tryz.prog idxoIr idxoS := by
 intro ⟨(l : List Pst), (p : Pst)⟩ hx
 replace hx : l.length ≤ 9223372036854775807 := hx
 have hl : (l.map encO).length = l.length := List.length_map ..
 show vc _ _ _ _ ⟨argEnv 0 [L 4 (l.map encO), aO p], [], 0⟩
 conv => whnf
 refine ⟨Nat, fun xq => ⟨[(0, L 4 (l.map encO)), (3, .bp 0 0), (7, I (l.map encO).length), (8, I xq)], [(0, .box ((encO p).map .c))], 1⟩, fun xq => xq ≤ l.length ∧ ∀ y ∈ l.take xq, decide (p = y) = false, fun xq => l.length - xq, ⟨0, ?_, [], ⟨⟨rfl, rfl⟩, ⟨rfl, rfl⟩, ⟨rfl, rfl⟩, ⟨rfl, rfl⟩, trivial⟩, ⟨⟨rfl, rfl, rfl⟩, trivial⟩, rfl, rfl, rfl⟩, ?_⟩
 · (try dsimp only); exact ⟨Nat.zero_le _, by simp⟩
 rintro k hk
 obtain ⟨hk, hn⟩ : k ≤ l.length ∧ ∀ y ∈ l.take k, decide (p = y) = false := hk
 (try dsimp only)
 by_cases hkl : k < l.length
 · obtain ⟨x, hx⟩ := getElem_some hkl
   by_cases hc : p.ref = x.ref ∧ p.fr = x.fr ∧ p.to = x.to ∧ p.am = x.am ∧ True
   · have hf : fidx (fun y => decide (p = y)) l = some k := fidx_at hx hn (decide_eq_true (pst_ext hc))
     repeat' ((conv => whnf); first | (refine ⟨fun h => ?_, fun h => ?_⟩ <;> try (exfalso; first | omega | (revert h; decide) | exact h rfl | contradiction | cases (show true = false from h) | cases (show false = true from h))) | (refine ⟨by omega, fun r hrr => ?_⟩; first | ((have hre : r = encO x := by (first | exact get_row hrr hx | fail)); subst hre)) | fail)
     all_goals (refine ⟨[], rfl, trivial, congrArg (CV.int .i64) ?_⟩; exact (show idxO l p = _ by unfold idxO; rw [hf]).symm)
   · repeat' ((conv => whnf); first | (refine ⟨fun h => ?_, fun h => ?_⟩ <;> try (exfalso; first | omega | (revert h; decide) | exact h rfl | contradiction | cases (show true = false from h) | cases (show false = true from h))) | (refine ⟨by omega, fun r hrr => ?_⟩; first | ((have hre : r = encO x := by (first | exact get_row hrr hx | fail)); subst hre)) | (refine ⟨k + 1, ⟨?_, by (try dsimp only); omega⟩, [], ⟨⟨rfl, rfl⟩, ⟨rfl, rfl⟩, ⟨rfl, rfl⟩, ⟨rfl, rfl⟩, trivial⟩, ⟨⟨rfl, rfl, rfl⟩, trivial⟩, rfl, rfl, rfl⟩; (try dsimp only); exact ⟨by omega, no_step hx hn (decide_eq_false (pst_ne hc))⟩) | refine ⟨⟨by omega, by omega⟩, ?_⟩ | fail)
 · rw [take_end hkl] at hn
   have hf : fidx (fun y => decide (p = y)) l = none := fidx_none hn
   repeat' ((conv => whnf); first | (refine ⟨fun h => ?_, fun h => ?_⟩ <;> try (exfalso; first | omega | (revert h; decide) | exact h rfl | cases (show true = false from h) | cases (show false = true from h))) | fail)
   all_goals (refine ⟨[], rfl, trivial, congrArg (CV.int .i64) ?_⟩; exact (show idxO l p = _ by unfold idxO; rw [hf]).symm)
theorem idxo_h : Holds Tryz.prog 94 idxoS := holds_of mix Tryz.func94 idxoLow (fun _ => rfl) idxoV
def contIr : IFn := ⟨9, [.tmp 4], (zq [ zo 3 .box [1], zl 4 .mov [zf]] (zq [ zm 5 0, zo 6 (.load 4 true) [3], zo 7 (.call 94) [5, 6], zl 8 (.cmp .geq) [.tmp 7, zi 0], zm 4 8] .ret))⟩
theorem contLow : lowF Tryz.prog {} Tryz.f71 = some contIr := by kernel_rfl
def contS : Spec := spec (List Pst × Pst) (fun p => [L 4 (p.1.map encO), aO p.2]) (fun p => p.1.length ≤ 9223372036854775807) (fun p => B (decide (p.2 ∈ p.1)))
theorem contV : fnV Tryz.prog contIr contS := by
 intro ⟨(l : List Pst), (p : Pst)⟩ hx
 show vc _ _ _ _ ⟨argEnv 0 [L 4 (l.map encO), aO p], [], 0⟩
 by_cases h0 : 0 ≤ idxO l p
 · repeat' ((conv => whnf); first | (refine ⟨fun h => ?_, fun h => ?_⟩ <;> try (exfalso; first | omega | (revert h; decide) | exact h rfl | cases (show true = false from h) | cases (show false = true from h))) | (refine ⟨_, idxo_h, (l, p), hx, leVs_of_eq rfl, .inl rfl, rfl, ?_⟩; show norm (I (idxO l p)) _) | fail)
   all_goals (refine ⟨[], rfl, trivial, congrArg CV.bool ?_⟩; exact (idxO_mem.trans (decide_eq_true h0)).symm)
 · repeat' ((conv => whnf); first | (refine ⟨fun h => ?_, fun h => ?_⟩ <;> try (exfalso; first | omega | (revert h; decide) | exact h rfl | cases (show true = false from h) | cases (show false = true from h))) | (refine ⟨_, idxo_h, (l, p), hx, leVs_of_eq rfl, .inl rfl, rfl, ?_⟩; show norm (I (idxO l p)) _) | fail)
   all_goals (refine ⟨[], rfl, trivial, congrArg CV.bool ?_⟩; exact (idxO_mem.trans (decide_eq_false h0)).symm)
theorem cont_h : Holds Tryz.prog 71 contS := holds_of mix Tryz.func71 contLow (fun _ => rfl) contV
def postR (l : List Pst) (p : Pst) : SV := if (postF l p).2 = 0 then .tup [.osl 0, I 0] else .tup [.c .nil, I (postF l p).2]
def postOb (l : List Pst) (p : Pst) : List Ob := if (postF l p).2 = 0 then [rowO (postF l p).1] else []
def postOIr : IFn := ⟨30, [.tmp 4, .tmp 5], (zq [ zo 3 .box [1], zl 4 .mov [zx], zl 5 .mov [zi 0]] (.seq (zq [ zm 9 0, zo 10 (.call 70) [9], zm 6 10] (zq [ zm 11 6, zl 12 (.cmp .neq) [.tmp 11, zi 0]] (.cond (.tmp 12) (zq [ zm 13 6, zl 4 .mov [zx], zm 5 13] .ret) .skip))) (zq [ zm 14 0, zo 15 (.callo 62) [14], zm 7 15] (.seq (zq [ zm 16 0, zo 17 (.load 4 true) [3], zo 18 (.call 71) [16, 17], zo 19 .not [18]] (.cond (.tmp 19) (zp [ zm 20 7, zo 21 (.load 4 true) [3], zo 22 (.buildSl 59 4) [21], zo 23 (.append 59 4 32) [20, 22], zm 7 23]) .skip)) (.seq (zq [ zm 24 7, zo 25 (.call 70) [24], zm 8 25] (zq [ zm 26 8, zl 27
 (.cmp .neq) [.tmp 26, zi 0]] (.cond (.tmp 27) (zq [ zm 28 8, zl 4 .mov [zx], zm 5 28] .ret) .skip))) (zq [ zm 29 7, zm 4 29, zl 5 .mov [zi 0]] .ret))))))⟩
theorem postOLow : lowF Tryz.prog { gives := [15] } Tryz.f40 = some postOIr := by kernel_rfl
def postOS : Spec := ⟨List Pst × Pst, fun p => [L 4 (p.1.map encO), aO p.2], fun p => p.1.length ≤ 900000, fun p => postR p.1 p.2, fun p => postOb p.1 p.2⟩
set_option maxHeartbeats 1000000 in
theorem postOV : fnV Tryz.prog postOIr postOS := by
 intro ⟨(l : List Pst), (p : Pst)⟩ hx
 replace hx : l.length ≤ 900000 := hx
 have hl : (l.map encO).length = l.length := List.length_map ..
 show vc _ _ _ _ ⟨argEnv 0 [L 4 (l.map encO), aO p], [], 0⟩
 by_cases h1 : ledR l ≠ 0
 · have hP : postF l p = ([], ledR l) := if_pos h1
   have hq : ¬ (([], ledR l) : List Pst × Int).2 = 0 := h1
   repeat' ((conv => whnf); first | (refine ⟨fun h => ?_, fun h => ?_⟩ <;> try (exfalso; first | omega | (revert h; decide) | exact h rfl | cases (show true = false from h) | cases (show false = true from h))) | (refine ⟨_, lright_h, l, (by show List.length (l) ≤ _; first | omega | (rw [List.length_append]; simp only [List.length_cons, List.length_nil]; omega)), ⟨leV_refl _, trivial⟩, .inr rfl, rfl, ?_⟩; show norm (I (ledR (l))) _) | fail)
   all_goals (refine ⟨[], rfl, ?_, ?_⟩; (show obsOk _ _ (postOb l p); unfold postOb; rw [hP, if_neg hq]; trivial); (show leR _ (postR l p); unfold postR; rw [hP, if_neg hq]; exact ⟨rfl, rfl, trivial⟩))
 cases hm : decide (p ∈ l) with
 | true =>
   have hA : addF l p = l := if_pos (of_decide_eq_true hm)
   have hP : postF l p = (l, 0) := by unfold postF; rw [if_neg h1, hA, if_neg h1]
   repeat' ((conv => whnf); first | (refine ⟨fun h => ?_, fun h => ?_⟩ <;> try (exfalso; first | omega | (revert h; decide) | exact h rfl | cases (show true = false from h) | cases (show false = true from h))) | (refine ⟨_, lright_h, l, (by show List.length (l) ≤ _; first | omega | (rw [List.length_append]; simp only [List.length_cons, List.length_nil]; omega)), ⟨leV_refl _, trivial⟩, .inr rfl, rfl, ?_⟩; show norm (I (ledR (l))) _) | fail)
   conv => whnf
   refine ⟨rfl, _, cloneO_h, l, (by show l.length ≤ _; omega), leVs_of_eq rfl, trivial, ?_⟩
   repeat' ((conv => whnf); (try dsimp only [setL, List.map_cons, List.map_nil, List.take, List.drop, SV.cells, constV, shift, St.new, St.put, kills, killI, Nat.reduceAdd]); first | (refine ⟨fun h => ?_, fun h => ?_⟩ <;> try (exfalso; first | omega | (revert h; decide) | exact h rfl | cases (show true = false from h) | cases (show false = true from h))) | (refine ⟨_, cont_h, (l, p), (by show l.length ≤ _; omega), leVs_of_eq rfl, .inl rfl, rfl, ?_⟩; show norm (B (decide (p ∈ l))) _; rw [hm]) | (refine ⟨_, lright_h, l, (by show List.length (l) ≤ _; first | omega | (rw [List.length_append]; simp only [List.length_cons, List.length_nil]; omega)), ⟨leV_refl _, trivial⟩, .inr rfl, rfl, ?_⟩; show norm (I (ledR (l))) _) | fail)
   all_goals conv => whnf
   refine ⟨[1], rfl, ?_, ?_⟩
   · show obsOk _ _ (postOb l p)
     unfold postOb
     rw [hP, if_pos rfl]
     exact ⟨⟨rfl, _, _, _, rfl⟩, trivial⟩
   · show leR _ (postR l p)
     unfold postR
     rw [hP, if_pos rfl]
     exact ⟨rfl, rfl, trivial⟩
 | false =>
   have hA : addF l p = l ++ [p] := if_neg (of_decide_eq_false hm)
   by_cases h2 : ledR (l ++ [p]) ≠ 0
   · have hP : postF l p = ([], ledR (l ++ [p])) := by unfold postF; rw [if_neg h1, hA, if_pos h2]
     have hq : ¬ (([], ledR (l ++ [p])) : List Pst × Int).2 = 0 := h2
     repeat' ((conv => whnf); first | (refine ⟨fun h => ?_, fun h => ?_⟩ <;> try (exfalso; first | omega | (revert h; decide) | exact h rfl | cases (show true = false from h) | cases (show false = true from h))) | (refine ⟨_, lright_h, l, (by show List.length (l) ≤ _; first | omega | (rw [List.length_append]; simp only [List.length_cons, List.length_nil]; omega)), ⟨leV_refl _, trivial⟩, .inr rfl, rfl, ?_⟩; show norm (I (ledR (l))) _) | fail)
     conv => whnf
     refine ⟨rfl, _, cloneO_h, l, (by show l.length ≤ _; omega), leVs_of_eq rfl, trivial, ?_⟩
     repeat' ((conv => whnf); (try dsimp only [setL, List.map_cons, List.map_nil, List.take, List.drop, SV.cells, constV, shift, St.new, St.put, kills, killI, Nat.reduceAdd]); first | (refine ⟨fun h => ?_, fun h => ?_⟩ <;> try (exfalso; first | omega | (revert h; decide) | exact h rfl | cases (show true = false from h) | cases (show false = true from h))) | (refine ⟨_, cont_h, (l, p), (by show l.length ≤ _; omega), leVs_of_eq rfl, .inl rfl, rfl, ?_⟩; show norm (B (decide (p ∈ l))) _; rw [hm]) | (refine ⟨_, lright_h, l ++ [p], (by show List.length (l ++ [p]) ≤ _; first | omega | (rw [List.length_append]; simp only [List.length_cons, List.length_nil]; omega)), ⟨(by show leV (L 4 (l.map encO ++ [encO p])) (L 4 ((l ++ [p]).map encO)); rw [List.map_append]; exact leV_refl _), trivial⟩, .inr rfl, rfl, ?_⟩; show norm (I (ledR (l ++ [p]))) _) | (refine ⟨⟨by first | omega | (simp only [List.length_nil]; omega) | (simp only [List.length_cons, List.length_nil]; omega), by first | omega | (simp only [List.length_nil]; omega) | (simp only [List.length_cons, List.length_nil]; omega)⟩, ?_⟩) | fail)
     all_goals conv => whnf
     all_goals (refine ⟨[], rfl, ?_, ?_⟩; (show obsOk _ _ (postOb l p); unfold postOb; rw [hP, if_neg hq]; trivial); (show leR _ (postR l p); unfold postR; rw [hP, if_neg hq]; exact ⟨rfl, rfl, trivial⟩))
   · have hP : postF l p = (l ++ [p], 0) := by unfold postF; rw [if_neg h1, hA, if_neg h2]
     repeat' ((conv => whnf); first | (refine ⟨fun h => ?_, fun h => ?_⟩ <;> try (exfalso; first | omega | (revert h; decide) | exact h rfl | cases (show true = false from h) | cases (show false = true from h))) | (refine ⟨_, lright_h, l, (by show List.length (l) ≤ _; first | omega | (rw [List.length_append]; simp only [List.length_cons, List.length_nil]; omega)), ⟨leV_refl _, trivial⟩, .inr rfl, rfl, ?_⟩; show norm (I (ledR (l))) _) | fail)
     conv => whnf
     refine ⟨rfl, _, cloneO_h, l, (by show l.length ≤ _; omega), leVs_of_eq rfl, trivial, ?_⟩
     repeat' ((conv => whnf); (try dsimp only [setL, List.map_cons, List.map_nil, List.take, List.drop, SV.cells, constV, shift, St.new, St.put, kills, killI, Nat.reduceAdd]); first | (refine ⟨fun h => ?_, fun h => ?_⟩ <;> try (exfalso; first | omega | (revert h; decide) | exact h rfl | cases (show true = false from h) | cases (show false = true from h))) | (refine ⟨_, cont_h, (l, p), (by show l.length ≤ _; omega), leVs_of_eq rfl, .inl rfl, rfl, ?_⟩; show norm (B (decide (p ∈ l))) _; rw [hm]) | (refine ⟨_, lright_h, l ++ [p], (by show List.length (l ++ [p]) ≤ _; first | omega | (rw [List.length_append]; simp only [List.length_cons, List.length_nil]; omega)), ⟨(by show leV (L 4 (l.map encO ++ [encO p])) (L 4 ((l ++ [p]).map encO)); rw [List.map_append]; exact leV_refl _), trivial⟩, .inr rfl, rfl, ?_⟩; show norm (I (ledR (l ++ [p]))) _) | (refine ⟨⟨by first | omega | (simp only [List.length_nil]; omega) | (simp only [List.length_cons, List.length_nil]; omega), by first | omega | (simp only [List.length_nil]; omega) | (simp only [List.length_cons, List.length_nil]; omega)⟩, ?_⟩) | fail)
     all_goals conv => whnf
     refine ⟨[2], rfl, ?_, ?_⟩
     · show obsOk _ _ (postOb l p)
       unfold postOb
       rw [hP, if_pos rfl]
       refine ⟨⟨?_, _, _, _, rfl⟩, trivial⟩
       show some (Ob.row _ 4 (l.map encO ++ [encO p])) = some (Ob.row _ 4 ((l ++ [p]).map encO))
       rw [List.map_append]
       rfl
     · show leR _ (postR l p)
       unfold postR
       rw [hP, if_pos rfl]
       exact ⟨rfl, rfl, trivial⟩
theorem postO_h : Holds Tryz.prog 40 postOS := holds_of mix Tryz.func40 postOLow (fun _ => rfl) postOV
end Go.Proofs.YtjpdaapjnpdiiaaGreat.P
