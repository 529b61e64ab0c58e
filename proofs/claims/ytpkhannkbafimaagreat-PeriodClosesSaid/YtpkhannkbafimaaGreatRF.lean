/- Periods: Post and Close. -/
import Derived.Test.YtpkhannkbafimaaGreatRE
namespace Go.Proofs.YtpkhannkbafimaaGreat
open Go.RowKit
def idxO (l : List Pst) (p : Pst) : Int := match fidx (fun y => decide (p = y)) l with
  | some i => i
  | none => -1
theorem idxO_mem {l : List Pst} {p : Pst} : decide (p ∈ l) = decide (0 ≤ idxO l p) := by
  unfold idxO
  cases h : fidx (fun y => decide (p = y)) l with
  | none =>
    have hn := fidx_no h
    rw [decide_eq_false (fun hm : p ∈ l => by have := hn p hm; simp at this)]
    exact (decide_eq_false (by dsimp only; omega)).symm
  | some i =>
    obtain ⟨x, hx, hp, _⟩ := fidx_some h
    have e : p = x := of_decide_eq_true hp
    rw [decide_eq_true (show p ∈ l by rw [e]; exact List.mem_of_getElem? hx)]
    exact (decide_eq_true (by dsimp only; omega)).symm

/-! slices.Index[[]skiarea/api.Posting,skiarea/api.Posting] -/
def idxoIr : IFn := ⟨19, [.tmp 4],
 (.seq (.ops [
 ⟨(some 3), .box, [.tmp 1], none⟩,
 ⟨(some 4), .mov, [.const (.int .i64 0)], none⟩] false)
 (.seq (.seq (.ops [
 ⟨(some 6), .mov, [.tmp 0], none⟩,
 ⟨(some 7), .len, [.tmp 6], none⟩,
 ⟨(some 8), .mov, [.const (.int .i64 0)], none⟩] false)
 (.block 0
 (.loop
 (.seq (.ops [
 ⟨(some 9), .cmp .lss, [.tmp 8, .tmp 7], none⟩] false)
 (.seq (.cond (.tmp 9)
 .skip
 (.exit 0))
 (.seq (.block 1
 (.seq (.ops [
 ⟨(some 10), .mov, [.tmp 8], none⟩,
 ⟨(some 5), .mov, [.tmp 10], none⟩] false)
 (.seq (.ops [
 ⟨(some 11), .load 4 true, [.tmp 3], none⟩,
 ⟨(some 12), .mov, [.tmp 0], none⟩,
 ⟨(some 13), .mov, [.tmp 5], none⟩,
 ⟨(some 14), .idx 4, [.tmp 12, .tmp 13], none⟩,
 ⟨(some 15), .load 4 true, [.tmp 14], none⟩,
 ⟨(some 16), .eqa [false, false, false, false] false, [.tmp 11, .tmp 15], none⟩] true)
 (.cond (.tmp 16)
 (.seq (.ops [
 ⟨(some 17), .mov, [.tmp 5], none⟩,
 ⟨(some 4), .mov, [.tmp 17], none⟩] false)
 .ret)
 .skip))))
 (.ops [
 ⟨(some 18), .bin .add .i64 false, [.tmp 8, .const (.int .i64 1)], none⟩,
 ⟨(some 8), .mov, [.tmp 18], none⟩] false)))))))
 (.seq (.ops [
 ⟨(some 4), .mov, [.const (.int .i64 (-1))], none⟩] false)
 .ret)))⟩
theorem idxoLow : lowF Tryz.prog {} Tryz.f120 = some idxoIr := by kernel_rfl
def idxoS : Spec := spec (List Pst × Pst) (fun p => [L 4 (p.1.map encO), aO p.2]) (fun p => p.1.length ≤ 9223372036854775807) (fun p => I (idxO p.1 p.2))
theorem idxoV : fnV Tryz.prog idxoIr idxoS := by
  intro ⟨(l : List Pst), (p : Pst)⟩ hx
  replace hx : l.length ≤ 9223372036854775807 := hx
  have hl : (l.map encO).length = l.length := List.length_map ..
  show vc _ _ _ _ ⟨argEnv 0 [L 4 (l.map encO), aO p], [], 0⟩
  conv => whnf
  refine ⟨Nat, fun xq => ⟨[(0, L 4 (l.map encO)), (3, .bp 0 0), (7, I (l.map encO).length), (8, I xq)], [(0, .box ((encO p).map .c))], 1⟩, fun xq => xq ≤ l.length ∧ ∀ y ∈ l.take xq, decide (p = y) = false, fun xq => l.length - xq, ⟨0, ?_, [], ⟨⟨rfl, rfl⟩, ⟨⟨rfl, rfl⟩, ⟨⟨rfl, rfl⟩, ⟨⟨rfl, rfl⟩, trivial⟩⟩⟩⟩, ⟨⟨rfl, rfl, rfl⟩, trivial⟩, rfl, rfl, rfl⟩, ?_⟩
  · (try dsimp only); exact ⟨Nat.zero_le _, by simp⟩
  rintro k hk
  obtain ⟨hk, hn⟩ : k ≤ l.length ∧ ∀ y ∈ l.take k, decide (p = y) = false := hk
  (try dsimp only)
  by_cases hkl : k < l.length
  · obtain ⟨x, hx⟩ := getElem_some hkl
    by_cases hc : p.ref = x.ref ∧ p.fr = x.fr ∧ p.to = x.to ∧ p.am = x.am ∧ True
    · have hf : fidx (fun y => decide (p = y)) l = some k := fidx_at hx hn (decide_eq_true (pst_ext hc))
      repeat' ((conv => whnf); first | (refine ⟨fun h => ?_, fun h => ?_⟩ <;> try (exfalso; first | omega | exact absurd h (by decide) | exact h rfl | contradiction | exact absurd (show true = false from h) (by decide) | exact absurd (show false = true from h) (by decide))) | (refine ⟨by omega, fun r hrr => ?_⟩; first | ((have hre : r = encO x := by (first | exact get_row hrr hx | fail)); subst hre)) | fail | fail)
      all_goals (refine ⟨[], rfl, trivial, congrArg (CV.int .i64) ?_⟩; exact (show idxO l p = _ by unfold idxO; rw [hf]).symm)
    · repeat' ((conv => whnf); first | (refine ⟨fun h => ?_, fun h => ?_⟩ <;> try (exfalso; first | omega | exact absurd h (by decide) | exact h rfl | contradiction | exact absurd (show true = false from h) (by decide) | exact absurd (show false = true from h) (by decide))) | (refine ⟨by omega, fun r hrr => ?_⟩; first | ((have hre : r = encO x := by (first | exact get_row hrr hx | fail)); subst hre)) | (refine ⟨k + 1, ⟨?_, by (try dsimp only); omega⟩, [], ⟨⟨rfl, rfl⟩, ⟨⟨rfl, rfl⟩, ⟨⟨rfl, rfl⟩, ⟨⟨rfl, rfl⟩, trivial⟩⟩⟩⟩, ⟨⟨rfl, rfl, rfl⟩, trivial⟩, rfl, rfl, rfl⟩; (try dsimp only); exact ⟨by omega, no_step hx hn (decide_eq_false (pst_ne hc))⟩) | refine ⟨⟨by omega, by omega⟩, ?_⟩ | fail)
  · rw [take_end hkl] at hn
    have hf : fidx (fun y => decide (p = y)) l = none := fidx_none hn
    repeat' ((conv => whnf); first | (refine ⟨fun h => ?_, fun h => ?_⟩ <;> try (exfalso; first | omega | exact absurd h (by decide) | exact h rfl | exact absurd (show true = false from h) (by decide) | exact absurd (show false = true from h) (by decide))) | fail | fail)
    all_goals (refine ⟨[], rfl, trivial, congrArg (CV.int .i64) ?_⟩; exact (show idxO l p = _ by unfold idxO; rw [hf]).symm)
theorem idxo_h : Holds Tryz.prog 120 idxoS := holds_of mix Tryz.func120 idxoLow (fun _ => rfl) idxoV

/-! slices.Contains[[]skiarea/api.Posting,skiarea/api.Posting] -/
def contIr : IFn := ⟨9, [.tmp 4],
 (.seq (.ops [
 ⟨(some 3), .box, [.tmp 1], none⟩,
 ⟨(some 4), .mov, [.const (.bool false)], none⟩] false)
 (.seq (.ops [
 ⟨(some 5), .mov, [.tmp 0], none⟩,
 ⟨(some 6), .load 4 true, [.tmp 3], none⟩,
 ⟨(some 7), .call 120, [.tmp 5, .tmp 6], none⟩,
 ⟨(some 8), .cmp .geq, [.tmp 7, .const (.int .i64 0)], none⟩,
 ⟨(some 4), .mov, [.tmp 8], none⟩] false)
 .ret))⟩
theorem contLow : lowF Tryz.prog {} Tryz.f93 = some contIr := by kernel_rfl
def contS : Spec := spec (List Pst × Pst) (fun p => [L 4 (p.1.map encO), aO p.2]) (fun p => p.1.length ≤ 9223372036854775807) (fun p => B (decide (p.2 ∈ p.1)))
theorem contV : fnV Tryz.prog contIr contS := by
  intro ⟨(l : List Pst), (p : Pst)⟩ hx
  show vc _ _ _ _ ⟨argEnv 0 [L 4 (l.map encO), aO p], [], 0⟩
  by_cases h0 : 0 ≤ idxO l p
  · repeat' ((conv => whnf); first | (refine ⟨fun h => ?_, fun h => ?_⟩ <;> try (exfalso; first | omega | exact absurd h (by decide) | exact h rfl | exact absurd (show true = false from h) (by decide) | exact absurd (show false = true from h) (by decide))) | (refine ⟨_, idxo_h, (l, p), hx, leVs_of_eq rfl, .inl rfl, rfl, ?_⟩; show norm (I (idxO l p)) _) | fail | fail)
    all_goals (refine ⟨[], rfl, trivial, congrArg CV.bool ?_⟩; exact (idxO_mem.trans (decide_eq_true h0)).symm)
  · repeat' ((conv => whnf); first | (refine ⟨fun h => ?_, fun h => ?_⟩ <;> try (exfalso; first | omega | exact absurd h (by decide) | exact h rfl | exact absurd (show true = false from h) (by decide) | exact absurd (show false = true from h) (by decide))) | (refine ⟨_, idxo_h, (l, p), hx, leVs_of_eq rfl, .inl rfl, rfl, ?_⟩; show norm (I (idxO l p)) _) | fail | fail)
    all_goals (refine ⟨[], rfl, trivial, congrArg CV.bool ?_⟩; exact (idxO_mem.trans (decide_eq_false h0)).symm)
theorem cont_h : Holds Tryz.prog 93 contS := holds_of mix Tryz.func93 contLow (fun _ => rfl) contV

/-! skiarea/ledger.Post -/
def postR (l : List Pst) (p : Pst) : SV := if (postF l p).2 = 0 then .tup [.osl 0, I 0] else .tup [.c .nil, I (postF l p).2]
def postOb (l : List Pst) (p : Pst) : List Ob := if (postF l p).2 = 0 then [rowO (postF l p).1] else []

/-! skiarea/ledger.Post -/
def postOIr : IFn := ⟨30, [.tmp 4, .tmp 5],
 (.seq (.ops [
 ⟨(some 3), .box, [.tmp 1], none⟩,
 ⟨(some 4), .mov, [.const (.slice none 0 0)], none⟩,
 ⟨(some 5), .mov, [.const (.int .i64 0)], none⟩] false)
 (.seq (.seq (.ops [
 ⟨(some 9), .mov, [.tmp 0], none⟩,
 ⟨(some 10), .call 42, [.tmp 9], none⟩,
 ⟨(some 6), .mov, [.tmp 10], none⟩] false)
 (.seq (.ops [
 ⟨(some 11), .mov, [.tmp 6], none⟩,
 ⟨(some 12), .cmp .neq, [.tmp 11, .const (.int .i64 0)], none⟩] false)
 (.cond (.tmp 12)
 (.seq (.ops [
 ⟨(some 13), .mov, [.tmp 6], none⟩,
 ⟨(some 4), .mov, [.const (.slice none 0 0)], none⟩,
 ⟨(some 5), .mov, [.tmp 13], none⟩] false)
 .ret)
 .skip)))
 (.seq (.ops [
 ⟨(some 14), .mov, [.tmp 0], none⟩,
 ⟨(some 15), .callo 82, [.tmp 14], none⟩,
 ⟨(some 7), .mov, [.tmp 15], none⟩] false)
 (.seq (.seq (.ops [
 ⟨(some 16), .mov, [.tmp 0], none⟩,
 ⟨(some 17), .load 4 true, [.tmp 3], none⟩,
 ⟨(some 18), .call 93, [.tmp 16, .tmp 17], none⟩,
 ⟨(some 19), .not, [.tmp 18], none⟩] false)
 (.cond (.tmp 19)
 (.ops [
 ⟨(some 20), .mov, [.tmp 7], none⟩,
 ⟨(some 21), .load 4 true, [.tmp 3], none⟩,
 ⟨(some 22), .buildSl 72 4, [.tmp 21], none⟩,
 ⟨(some 23), .append 72 4 32, [.tmp 20, .tmp 22], none⟩,
 ⟨(some 7), .mov, [.tmp 23], none⟩] false)
 .skip))
 (.seq (.seq (.ops [
 ⟨(some 24), .mov, [.tmp 7], none⟩,
 ⟨(some 25), .call 42, [.tmp 24], none⟩,
 ⟨(some 8), .mov, [.tmp 25], none⟩] false)
 (.seq (.ops [
 ⟨(some 26), .mov, [.tmp 8], none⟩,
 ⟨(some 27), .cmp .neq, [.tmp 26, .const (.int .i64 0)], none⟩] false)
 (.cond (.tmp 27)
 (.seq (.ops [
 ⟨(some 28), .mov, [.tmp 8], none⟩,
 ⟨(some 4), .mov, [.const (.slice none 0 0)], none⟩,
 ⟨(some 5), .mov, [.tmp 28], none⟩] false)
 .ret)
 .skip)))
 (.seq (.ops [
 ⟨(some 29), .mov, [.tmp 7], none⟩,
 ⟨(some 4), .mov, [.tmp 29], none⟩,
 ⟨(some 5), .mov, [.const (.int .i64 0)], none⟩] false)
 .ret))))))⟩
theorem postOLow : lowF Tryz.prog { gives := [15] } Tryz.f65 = some postOIr := by kernel_rfl
def postOS : Spec := ⟨List Pst × Pst, fun p => [L 4 (p.1.map encO), aO p.2], fun p => p.1.length ≤ 900000, fun p => postR p.1 p.2, fun p => postOb p.1 p.2⟩
set_option maxHeartbeats 1000000 in
theorem postOV : fnV Tryz.prog postOIr postOS := by
  intro ⟨(l : List Pst), (p : Pst)⟩ hx
  replace hx : l.length ≤ 900000 := hx
  have hl : (l.map encO).length = l.length := List.length_map ..
  show vc _ _ _ _ ⟨argEnv 0 [L 4 (l.map encO), aO p], [], 0⟩
  by_cases h1 : ledR l ≠ 0
  · have hP : postF l p = ([], ledR l) := if_pos h1
    have hq : ¬ (([], ledR l) : List Pst × Int).2 = 0 := h1
    repeat' ((conv => whnf); first | (refine ⟨fun h => ?_, fun h => ?_⟩ <;> try (exfalso; first | omega | exact absurd h (by decide) | exact h rfl | exact absurd (show true = false from h) (by decide) | exact absurd (show false = true from h) (by decide))) | (refine ⟨_, lright_h, l, (by show List.length (l) ≤ _; first | omega | (rw [List.length_append]; simp only [List.length_cons, List.length_nil]; omega)), ⟨leV_refl _, trivial⟩, .inr rfl, rfl, ?_⟩; show norm (I (ledR (l))) _) | fail | fail)
    all_goals (refine ⟨[], rfl, ?_, ?_⟩; (show obsOk _ _ (postOb l p); unfold postOb; rw [hP, if_neg hq]; trivial); (show leR _ (postR l p); unfold postR; rw [hP, if_neg hq]; exact ⟨rfl, rfl, trivial⟩))
  cases hm : decide (p ∈ l) with
  | true =>
    have hA : addF l p = l := if_pos (of_decide_eq_true hm)
    have hP : postF l p = (l, 0) := by unfold postF; rw [if_neg h1, hA, if_neg h1]
    repeat' ((conv => whnf); first | (refine ⟨fun h => ?_, fun h => ?_⟩ <;> try (exfalso; first | omega | exact absurd h (by decide) | exact h rfl | exact absurd (show true = false from h) (by decide) | exact absurd (show false = true from h) (by decide))) | (refine ⟨_, lright_h, l, (by show List.length (l) ≤ _; first | omega | (rw [List.length_append]; simp only [List.length_cons, List.length_nil]; omega)), ⟨leV_refl _, trivial⟩, .inr rfl, rfl, ?_⟩; show norm (I (ledR (l))) _) | fail | fail)
    conv => whnf
    refine ⟨rfl, _, cloneO_h, l, (by show l.length ≤ _; omega), leVs_of_eq rfl, trivial, ?_⟩
    repeat' ((conv => whnf); (try dsimp only [setL, List.map_cons, List.map_nil, List.take, List.drop, SV.cells, constV, shift, St.new, St.put, kills, killI, Nat.reduceAdd]); first | (refine ⟨fun h => ?_, fun h => ?_⟩ <;> try (exfalso; first | omega | exact absurd h (by decide) | exact h rfl | exact absurd (show true = false from h) (by decide) | exact absurd (show false = true from h) (by decide))) | (refine ⟨_, cont_h, (l, p), (by show l.length ≤ _; omega), leVs_of_eq rfl, .inl rfl, rfl, ?_⟩; show norm (B (decide (p ∈ l))) _; rw [hm]) | (refine ⟨_, lright_h, l, (by show List.length (l) ≤ _; first | omega | (rw [List.length_append]; simp only [List.length_cons, List.length_nil]; omega)), ⟨leV_refl _, trivial⟩, .inr rfl, rfl, ?_⟩; show norm (I (ledR (l))) _) | fail | fail)
    all_goals conv => whnf
    refine ⟨[1], rfl, ?_, ?_⟩
    · show obsOk _ _ (postOb l p)
      unfold postOb
      rw [hP, if_pos rfl]
      exact ⟨⟨rfl, _, _, _, rfl⟩, trivial⟩
    · show leR _ (postR l p)
      unfold postR
      rw [hP, if_pos rfl]
      exact ⟨rfl, rfl, trivial⟩
  | false =>
    have hA : addF l p = l ++ [p] := if_neg (of_decide_eq_false hm)
    by_cases h2 : ledR (l ++ [p]) ≠ 0
    · have hP : postF l p = ([], ledR (l ++ [p])) := by unfold postF; rw [if_neg h1, hA, if_pos h2]
      have hq : ¬ (([], ledR (l ++ [p])) : List Pst × Int).2 = 0 := h2
      repeat' ((conv => whnf); first | (refine ⟨fun h => ?_, fun h => ?_⟩ <;> try (exfalso; first | omega | exact absurd h (by decide) | exact h rfl | exact absurd (show true = false from h) (by decide) | exact absurd (show false = true from h) (by decide))) | (refine ⟨_, lright_h, l, (by show List.length (l) ≤ _; first | omega | (rw [List.length_append]; simp only [List.length_cons, List.length_nil]; omega)), ⟨leV_refl _, trivial⟩, .inr rfl, rfl, ?_⟩; show norm (I (ledR (l))) _) | fail | fail)
      conv => whnf
      refine ⟨rfl, _, cloneO_h, l, (by show l.length ≤ _; omega), leVs_of_eq rfl, trivial, ?_⟩
      repeat' ((conv => whnf); (try dsimp only [setL, List.map_cons, List.map_nil, List.take, List.drop, SV.cells, constV, shift, St.new, St.put, kills, killI, Nat.reduceAdd]); first | (refine ⟨fun h => ?_, fun h => ?_⟩ <;> try (exfalso; first | omega | exact absurd h (by decide) | exact h rfl | exact absurd (show true = false from h) (by decide) | exact absurd (show false = true from h) (by decide))) | (refine ⟨_, cont_h, (l, p), (by show l.length ≤ _; omega), leVs_of_eq rfl, .inl rfl, rfl, ?_⟩; show norm (B (decide (p ∈ l))) _; rw [hm]) | (refine ⟨_, lright_h, l ++ [p], (by show List.length (l ++ [p]) ≤ _; first | omega | (rw [List.length_append]; simp only [List.length_cons, List.length_nil]; omega)), ⟨(by show leV (L 4 (l.map encO ++ [encO p])) (L 4 ((l ++ [p]).map encO)); rw [List.map_append]; exact leV_refl _), trivial⟩, .inr rfl, rfl, ?_⟩; show norm (I (ledR (l ++ [p]))) _) | (refine ⟨⟨by first | omega | (simp only [List.length_nil]; omega) | (simp only [List.length_cons, List.length_nil]; omega), by first | omega | (simp only [List.length_nil]; omega) | (simp only [List.length_cons, List.length_nil]; omega)⟩, ?_⟩) | fail | fail)
      all_goals conv => whnf
      all_goals (refine ⟨[], rfl, ?_, ?_⟩; (show obsOk _ _ (postOb l p); unfold postOb; rw [hP, if_neg hq]; trivial); (show leR _ (postR l p); unfold postR; rw [hP, if_neg hq]; exact ⟨rfl, rfl, trivial⟩))
    · have hP : postF l p = (l ++ [p], 0) := by unfold postF; rw [if_neg h1, hA, if_neg h2]
      repeat' ((conv => whnf); first | (refine ⟨fun h => ?_, fun h => ?_⟩ <;> try (exfalso; first | omega | exact absurd h (by decide) | exact h rfl | exact absurd (show true = false from h) (by decide) | exact absurd (show false = true from h) (by decide))) | (refine ⟨_, lright_h, l, (by show List.length (l) ≤ _; first | omega | (rw [List.length_append]; simp only [List.length_cons, List.length_nil]; omega)), ⟨leV_refl _, trivial⟩, .inr rfl, rfl, ?_⟩; show norm (I (ledR (l))) _) | fail | fail)
      conv => whnf
      refine ⟨rfl, _, cloneO_h, l, (by show l.length ≤ _; omega), leVs_of_eq rfl, trivial, ?_⟩
      repeat' ((conv => whnf); (try dsimp only [setL, List.map_cons, List.map_nil, List.take, List.drop, SV.cells, constV, shift, St.new, St.put, kills, killI, Nat.reduceAdd]); first | (refine ⟨fun h => ?_, fun h => ?_⟩ <;> try (exfalso; first | omega | exact absurd h (by decide) | exact h rfl | exact absurd (show true = false from h) (by decide) | exact absurd (show false = true from h) (by decide))) | (refine ⟨_, cont_h, (l, p), (by show l.length ≤ _; omega), leVs_of_eq rfl, .inl rfl, rfl, ?_⟩; show norm (B (decide (p ∈ l))) _; rw [hm]) | (refine ⟨_, lright_h, l ++ [p], (by show List.length (l ++ [p]) ≤ _; first | omega | (rw [List.length_append]; simp only [List.length_cons, List.length_nil]; omega)), ⟨(by show leV (L 4 (l.map encO ++ [encO p])) (L 4 ((l ++ [p]).map encO)); rw [List.map_append]; exact leV_refl _), trivial⟩, .inr rfl, rfl, ?_⟩; show norm (I (ledR (l ++ [p]))) _) | (refine ⟨⟨by first | omega | (simp only [List.length_nil]; omega) | (simp only [List.length_cons, List.length_nil]; omega), by first | omega | (simp only [List.length_nil]; omega) | (simp only [List.length_cons, List.length_nil]; omega)⟩, ?_⟩) | fail | fail)
      all_goals conv => whnf
      refine ⟨[2], rfl, ?_, ?_⟩
      · show obsOk _ _ (postOb l p)
        unfold postOb
        rw [hP, if_pos rfl]
        refine ⟨⟨?_, _, _, _, rfl⟩, trivial⟩
        show some (Ob.row _ 4 (l.map encO ++ [encO p])) = some (Ob.row _ 4 ((l ++ [p]).map encO))
        rw [List.map_append]
        rfl
      · show leR _ (postR l p)
        unfold postR
        rw [hP, if_pos rfl]
        exact ⟨rfl, rfl, trivial⟩
theorem postO_h : Holds Tryz.prog 65 postOS := holds_of mix Tryz.func65 postOLow (fun _ => rfl) postOV

end Go.Proofs.YtpkhannkbafimaaGreat
