/- Terrain: the reference's checks of bases and of a map. -/
import Derived.Test.YtoeichkblclfaaaT4
namespace Go.Proofs.Ytoeichkblclfaaa
open Go.RowKit

/-! skiarea/skiarearef10.bases -/
def rbasesIr : IFn := ⟨49, [.tmp 2],
  (.seq (.ops [
    ⟨(some 1), .box, [.tmp 0], none⟩,
    ⟨(some 2), .mov, [.const (.int .i64 0)], none⟩] false)
  (.seq (.seq (.ops [
    ⟨(some 7), .faddr 3, [.tmp 1], none⟩,
    ⟨(some 8), .load 1 false, [.tmp 7], none⟩,
    ⟨(some 9), .len, [.tmp 8], none⟩,
    ⟨(some 10), .cmp .eql, [.tmp 9, .const (.int .i64 0)], none⟩] false)
  (.cond (.tmp 10)
    (.seq (.ops [
      ⟨(some 2), .mov, [.const (.int .i64 8)], none⟩] false)
    .ret)
    .skip))
  (.seq (.seq (.ops [
    ⟨(some 3), .mov, [.const (.int .i64 0)], none⟩] false)
  (.block 0
    (.loop
      (.seq (.seq (.ops [
        ⟨(some 11), .mov, [.tmp 3], none⟩,
        ⟨(some 12), .faddr 3, [.tmp 1], none⟩,
        ⟨(some 13), .load 1 false, [.tmp 12], none⟩,
        ⟨(some 14), .len, [.tmp 13], none⟩,
        ⟨(some 15), .cmp .lss, [.tmp 11, .tmp 14], none⟩] false)
      (.cond (.tmp 15)
        .skip
        (.exit 0)))
      (.seq (.block 1
        (.seq (.ops [
          ⟨(some 19), .load 4 true, [.tmp 1], none⟩,
          ⟨(some 20), .faddr 3, [.tmp 1], none⟩,
          ⟨(some 21), .load 1 false, [.tmp 20], none⟩,
          ⟨(some 22), .mov, [.tmp 3], none⟩,
          ⟨(some 23), .idx 1, [.tmp 21, .tmp 22], none⟩,
          ⟨(some 24), .load 1 false, [.tmp 23], none⟩,
          ⟨(some 25), .call 71, [.tmp 19, .tmp 24], none⟩,
          ⟨(some 18), .mov, [.tmp 25], none⟩,
          ⟨(some 26), .extract 0, [.tmp 18], none⟩,
          ⟨(some 27), .extract 1, [.tmp 18], none⟩,
          ⟨(some 4), .alloc [.int .i64 0, .int .i64 0], [], none⟩,
          ⟨none, .store 2, [.tmp 4, .tmp 26], none⟩,
          ⟨(some 5), .mov, [.tmp 27], none⟩] true)
        (.seq (.ops [
          ⟨(some 28), .mov, [.tmp 5], none⟩,
          ⟨(some 29), .not, [.tmp 28], none⟩] false)
        (.cond (.tmp 29)
          (.seq (.ops [
            ⟨(some 2), .mov, [.const (.int .i64 8)], none⟩] false)
          .ret)
          .skip))))
      (.ops [
        ⟨(some 16), .mov, [.tmp 3], none⟩,
        ⟨(some 17), .bin .add .i64 false, [.tmp 16, .const (.int .i64 1)], none⟩,
        ⟨(some 3), .mov, [.tmp 17], none⟩] false))))))
  (.seq (.seq (.ops [
    ⟨(some 6), .mov, [.const (.int .i64 1)], none⟩] false)
  (.block 2
    (.loop
      (.seq (.seq (.ops [
        ⟨(some 30), .mov, [.tmp 6], none⟩,
        ⟨(some 31), .faddr 3, [.tmp 1], none⟩,
        ⟨(some 32), .load 1 false, [.tmp 31], none⟩,
        ⟨(some 33), .len, [.tmp 32], none⟩,
        ⟨(some 34), .cmp .lss, [.tmp 30, .tmp 33], none⟩] false)
      (.cond (.tmp 34)
        .skip
        (.exit 2)))
      (.seq (.block 3
        (.seq (.ops [
          ⟨(some 37), .faddr 3, [.tmp 1], none⟩,
          ⟨(some 38), .load 1 false, [.tmp 37], none⟩,
          ⟨(some 39), .mov, [.tmp 6], none⟩,
          ⟨(some 40), .idx 1, [.tmp 38, .tmp 39], none⟩,
          ⟨(some 41), .load 1 false, [.tmp 40], none⟩,
          ⟨(some 42), .faddr 3, [.tmp 1], none⟩,
          ⟨(some 43), .load 1 false, [.tmp 42], none⟩,
          ⟨(some 44), .mov, [.tmp 6], none⟩,
          ⟨(some 45), .bin .sub .i64 false, [.tmp 44, .const (.int .i64 1)], none⟩,
          ⟨(some 46), .idx 1, [.tmp 43, .tmp 45], none⟩,
          ⟨(some 47), .load 1 false, [.tmp 46], none⟩,
          ⟨(some 48), .cmp .leq, [.tmp 41, .tmp 47], none⟩] true)
        (.cond (.tmp 48)
          (.seq (.ops [
            ⟨(some 2), .mov, [.const (.int .i64 7)], none⟩] false)
          .ret)
          .skip)))
      (.ops [
        ⟨(some 35), .mov, [.tmp 6], none⟩,
        ⟨(some 36), .bin .add .i64 false, [.tmp 35, .const (.int .i64 1)], none⟩,
        ⟨(some 6), .mov, [.tmp 36], none⟩] false))))))
  (.seq (.ops [
    ⟨(some 2), .mov, [.const (.int .i64 0)], none⟩] false)
  .ret)))))⟩
theorem rbasesLow : lowF Try.prog {} Try.f46 = some rbasesIr := by kernel_rfl
def rbasesS : Spec := spec Mp (fun m => [aM m]) okM (fun m => I (basesE m))
theorem rbasesV : fnV Try.prog rbasesIr rbasesS := by
  intro (m : Mp) (hm : okM m)
  have hm' := hm
  obtain ⟨⟨n1, n2⟩, n3, n4⟩ : (m.nodes.length ≤ 9223372036854775807 ∧ m.lifts.length ≤ 9223372036854775807) ∧ m.runs.length ≤ 9223372036854775807 ∧ m.bases.length ≤ 9223372036854775807 := hm
  have hm := hm'
  have hl : (m.bases.map e1).length = m.bases.length := List.length_map ..
  show vc _ _ _ _ ⟨argEnv 0 [aM m], [], 0⟩
  by_cases hz : m.bases.length = 0
  · repeat' ((conv => whnf); first | (refine ⟨fun h => ?_, fun h => ?_⟩ <;> try (exfalso; first | omega | exact absurd h (by decide) | exact h rfl)) | fail | fail)
    all_goals (refine ⟨[], rfl, trivial, congrArg (CV.int .i64) ?_⟩; exact ((show basesE m = 8 from if_pos hz)).symm)
  repeat' ((conv => whnf); first | (refine ⟨fun h => ?_, fun h => ?_⟩ <;> try (exfalso; first | omega | exact absurd h (by decide) | exact h rfl)) | fail | fail)
  refine ⟨Nat, fun xq => ⟨[(1, .bp 0 0), (3, I xq)], [(0, .box [L 2 (m.nodes.map encN), L 8 (m.lifts.map encL), L 7 (m.runs.map encU), L 1 (m.bases.map e1)])], 1⟩, fun xq => xq ≤ m.bases.length ∧ fe (baseE m) xq = 0, fun xq => m.bases.length - xq, ⟨0, ?_, [], ⟨⟨rfl, rfl⟩, ⟨⟨rfl, rfl⟩, trivial⟩⟩, ⟨⟨rfl, rfl, rfl⟩, trivial⟩, rfl, rfl, rfl⟩, ?_⟩
  · (try dsimp only); exact ⟨Nat.zero_le _, rfl⟩
  rintro k hk
  obtain ⟨hk, h0⟩ : k ≤ m.bases.length ∧ fe (baseE m) k = 0 := hk
  (try dsimp only)
  by_cases hkl : k < m.bases.length
  · obtain ⟨x, hx⟩ := getElem_some hkl
    have hE : baseE m k = if (nodeOf m x).isSome = false then 8 else 0 := by unfold baseE; rw [at_of hx]
    cases hb : nodeOf m x with
    | none =>
      rw [hb] at hE
      have hf := fe_hit hkl h0 (hE.trans (if_pos rfl)) (by decide)
      repeat' ((conv => whnf); first | (refine ⟨fun h => ?_, fun h => ?_⟩ <;> try (exfalso; first | omega | exact absurd h (by decide) | exact h rfl)) | (refine ⟨by omega, fun r hrr => ?_⟩; first | ((have hre : r = e1 x := by (first | exact get_row hrr hx | fail)); subst hre)) | (refine ⟨_, rnode_h, (m, x), hm, leVs_of_eq rfl, .inl rfl, rfl, ?_⟩; show norm (foundT encN node0 (nodeOf m x)) _; rw [hb]; show norm (.tup [aN node0, B false]) _) | refine ⟨⟨by omega, by omega⟩, ?_⟩ | fail | fail)
      all_goals (refine ⟨[], rfl, trivial, congrArg (CV.int .i64) ?_⟩; exact ((show basesE m = 8 by unfold basesE; rw [if_neg hz, if_pos (by rw [hf]; decide), hf])).symm)
    | some y =>
      rw [hb] at hE
      repeat' ((conv => whnf); first | (refine ⟨fun h => ?_, fun h => ?_⟩ <;> try (exfalso; first | omega | exact absurd h (by decide) | exact h rfl)) | (refine ⟨by omega, fun r hrr => ?_⟩; first | ((have hre : r = e1 x := by (first | exact get_row hrr hx | fail)); subst hre)) | (refine ⟨_, rnode_h, (m, x), hm, leVs_of_eq rfl, .inl rfl, rfl, ?_⟩; show norm (foundT encN node0 (nodeOf m x)) _; rw [hb]; show norm (.tup [aN y, B true]) _) | (refine ⟨k + 1, ⟨?_, by (try dsimp only); omega⟩, [], ⟨⟨rfl, rfl⟩, ⟨⟨rfl, rfl⟩, trivial⟩⟩, ⟨⟨rfl, rfl, rfl⟩, trivial⟩, rfl, rfl, rfl⟩; (try dsimp only); exact ⟨by omega, fe_go h0 (hE.trans (if_neg (by simp)))⟩) | refine ⟨⟨by omega, by omega⟩, ?_⟩ | fail)
  · have hkn : k = m.bases.length := by omega
    subst hkn
    have hbe : basesE m = fe (incE m) m.bases.length := by unfold basesE; rw [if_neg hz, if_neg (Decidable.not_not.2 h0)]
    repeat' ((conv => whnf); first | (refine ⟨fun h => ?_, fun h => ?_⟩ <;> try (exfalso; first | omega | exact absurd h (by decide) | exact h rfl)) | fail | fail)
    refine ⟨Nat, fun xq => ⟨[(1, .bp 0 0), (6, I xq)], [(0, .box [L 2 (m.nodes.map encN), L 8 (m.lifts.map encL), L 7 (m.runs.map encU), L 1 (m.bases.map e1)])], 1⟩, fun xq => (1 ≤ xq ∧ xq ≤ m.bases.length) ∧ fe (incE m) xq = 0, fun xq => m.bases.length - xq, ⟨1, ?_, [], ⟨⟨rfl, rfl⟩, ⟨⟨rfl, rfl⟩, trivial⟩⟩, ⟨⟨rfl, rfl, rfl⟩, trivial⟩, rfl, rfl, rfl⟩, ?_⟩
    · (try dsimp only); exact ⟨⟨Nat.le_refl _, by omega⟩, fe_go rfl (if_neg (by omega))⟩
    rintro k hk
    obtain ⟨⟨hk1, hk⟩, h0⟩ : (1 ≤ k ∧ k ≤ m.bases.length) ∧ fe (incE m) k = 0 := hk
    (try dsimp only)
    by_cases hkl : k < m.bases.length
    · obtain ⟨x, hx⟩ := getElem_some hkl
      obtain ⟨y, hy⟩ := getElem_some (show k - 1 < m.bases.length by omega)
      have hE : incE m k = if 0 < k ∧ x ≤ y then 7 else 0 := by unfold incE; rw [at_of hx, at_of hy]
      by_cases hle : x ≤ y
      · repeat' ((conv => whnf); first | (refine ⟨fun h => ?_, fun h => ?_⟩ <;> try (exfalso; first | omega | exact absurd h (by decide) | exact h rfl)) | (refine ⟨by omega, fun r hrr => ?_⟩; first | ((have hre : r = e1 x := by (first | exact get_row hrr hx | fail)); subst hre) | ((have hre : r = e1 y := by (first | exact get_rowi (j := k - 1) hrr (by omega) hy | fail)); subst hre)) | refine ⟨⟨by omega, by omega⟩, ?_⟩ | fail | fail)
        all_goals (refine ⟨[], rfl, trivial, congrArg (CV.int .i64) ?_⟩; exact (hbe.trans (fe_hit hkl h0 (hE.trans (if_pos ⟨by omega, hle⟩)) (by decide))).symm)
      · repeat' ((conv => whnf); first | (refine ⟨fun h => ?_, fun h => ?_⟩ <;> try (exfalso; first | omega | exact absurd h (by decide) | exact h rfl)) | (refine ⟨by omega, fun r hrr => ?_⟩; first | ((have hre : r = e1 x := by (first | exact get_row hrr hx | fail)); subst hre) | ((have hre : r = e1 y := by (first | exact get_rowi (j := k - 1) hrr (by omega) hy | fail)); subst hre)) | (refine ⟨k + 1, ⟨?_, by (try dsimp only); omega⟩, [], ⟨⟨rfl, rfl⟩, ⟨⟨rfl, rfl⟩, trivial⟩⟩, ⟨⟨rfl, rfl, rfl⟩, trivial⟩, rfl, rfl, rfl⟩; (try dsimp only); exact ⟨⟨by omega, by omega⟩, fe_go h0 (hE.trans (if_neg (by omega)))⟩) | refine ⟨⟨by omega, by omega⟩, ?_⟩ | fail)
    · have hkn : k = m.bases.length := by omega
      subst hkn
      repeat' ((conv => whnf); first | (refine ⟨fun h => ?_, fun h => ?_⟩ <;> try (exfalso; first | omega | exact absurd h (by decide) | exact h rfl)) | fail | fail)
      all_goals (refine ⟨[], rfl, trivial, congrArg (CV.int .i64) ?_⟩; exact (hbe.trans h0).symm)
theorem rbases_h : Holds Try.prog 46 rbasesS := holds_of mix Try.func46 rbasesLow (fun _ => rfl) rbasesV
theorem okM_of {m : Mp} (h : ¬ (64 < m.nodes.length ∨ 32 < m.lifts.length ∨ 64 < m.runs.length ∨ 64 < m.bases.length)) : okM m := ⟨⟨by omega, by omega⟩, by omega, by omega⟩
/-- What a right map's lifts are like. -/
theorem rightM_lifts {m : Mp} (h : rightM m = 0) : (okM m ∧ m.lifts.length ≤ 32) ∧ ∀ x ∈ m.lifts, 1 ≤ x.op ∧ x.op ≤ 8 := by
  unfold rightM at h
  split at h
  · omega
  rename_i h1
  split at h
  · rename_i h2; exact absurd h h2
  split at h
  · rename_i h2; exact absurd h h2
  rename_i h2
  refine ⟨⟨okM_of h1, by omega⟩, fun x hx => ?_⟩
  obtain ⟨k, hk⟩ := List.getElem?_of_mem hx
  have hE := fe_all (Decidable.not_not.1 h2) k (List.getElem?_eq_some_iff.1 hk).1
  unfold liftE at hE
  rw [at_of hk] at hE
  split at hE
  · omega
  · rename_i h3
    exact (Decidable.not_not.1 h3).2.1

/-! skiarea/skiarearef10.Right -/
def rrightMIr : IFn := ⟨46, [.tmp 2],
  (.seq (.ops [
    ⟨(some 1), .box, [.tmp 0], none⟩,
    ⟨(some 2), .mov, [.const (.int .i64 0)], none⟩] false)
  (.seq (.seq (.ops [
    ⟨(some 6), .faddr 0, [.tmp 1], none⟩,
    ⟨(some 7), .load 1 false, [.tmp 6], none⟩,
    ⟨(some 8), .len, [.tmp 7], none⟩,
    ⟨(some 9), .cmp .gtr, [.tmp 8, .const (.int .i64 64)], none⟩,
    ⟨(some 10), .mov, [.tmp 9], none⟩,
    ⟨(some 11), .faddr 1, [.tmp 1], (some (10, false))⟩,
    ⟨(some 12), .load 1 false, [.tmp 11], (some (10, false))⟩,
    ⟨(some 13), .len, [.tmp 12], (some (10, false))⟩,
    ⟨(some 14), .cmp .gtr, [.tmp 13, .const (.int .i64 32)], (some (10, false))⟩,
    ⟨(some 15), .pick, [.tmp 10, .const (.bool true), .tmp 14], none⟩,
    ⟨(some 16), .mov, [.tmp 15], none⟩,
    ⟨(some 17), .faddr 2, [.tmp 1], (some (16, false))⟩,
    ⟨(some 18), .load 1 false, [.tmp 17], (some (16, false))⟩,
    ⟨(some 19), .len, [.tmp 18], (some (16, false))⟩,
    ⟨(some 20), .cmp .gtr, [.tmp 19, .const (.int .i64 64)], (some (16, false))⟩,
    ⟨(some 21), .pick, [.tmp 16, .const (.bool true), .tmp 20], none⟩,
    ⟨(some 22), .mov, [.tmp 21], none⟩,
    ⟨(some 23), .faddr 3, [.tmp 1], (some (22, false))⟩,
    ⟨(some 24), .load 1 false, [.tmp 23], (some (22, false))⟩,
    ⟨(some 25), .len, [.tmp 24], (some (22, false))⟩,
    ⟨(some 26), .cmp .gtr, [.tmp 25, .const (.int .i64 64)], (some (22, false))⟩,
    ⟨(some 27), .pick, [.tmp 22, .const (.bool true), .tmp 26], none⟩] false)
  (.cond (.tmp 27)
    (.seq (.ops [
      ⟨(some 2), .mov, [.const (.int .i64 4)], none⟩] false)
    .ret)
    .skip))
  (.seq (.seq (.ops [
    ⟨(some 28), .faddr 0, [.tmp 1], none⟩,
    ⟨(some 29), .load 1 false, [.tmp 28], none⟩,
    ⟨(some 30), .call 43, [.tmp 29], none⟩,
    ⟨(some 3), .mov, [.tmp 30], none⟩] false)
  (.seq (.ops [
    ⟨(some 31), .mov, [.tmp 3], none⟩,
    ⟨(some 32), .cmp .neq, [.tmp 31, .const (.int .i64 0)], none⟩] false)
  (.cond (.tmp 32)
    (.seq (.ops [
      ⟨(some 33), .mov, [.tmp 3], none⟩,
      ⟨(some 2), .mov, [.tmp 33], none⟩] false)
    .ret)
    .skip)))
  (.seq (.seq (.ops [
    ⟨(some 34), .load 4 true, [.tmp 1], none⟩,
    ⟨(some 35), .call 44, [.tmp 34], none⟩,
    ⟨(some 4), .mov, [.tmp 35], none⟩] false)
  (.seq (.ops [
    ⟨(some 36), .mov, [.tmp 4], none⟩,
    ⟨(some 37), .cmp .neq, [.tmp 36, .const (.int .i64 0)], none⟩] false)
  (.cond (.tmp 37)
    (.seq (.ops [
      ⟨(some 38), .mov, [.tmp 4], none⟩,
      ⟨(some 2), .mov, [.tmp 38], none⟩] false)
    .ret)
    .skip)))
  (.seq (.seq (.ops [
    ⟨(some 39), .load 4 true, [.tmp 1], none⟩,
    ⟨(some 40), .call 45, [.tmp 39], none⟩,
    ⟨(some 5), .mov, [.tmp 40], none⟩] false)
  (.seq (.ops [
    ⟨(some 41), .mov, [.tmp 5], none⟩,
    ⟨(some 42), .cmp .neq, [.tmp 41, .const (.int .i64 0)], none⟩] false)
  (.cond (.tmp 42)
    (.seq (.ops [
      ⟨(some 43), .mov, [.tmp 5], none⟩,
      ⟨(some 2), .mov, [.tmp 43], none⟩] false)
    .ret)
    .skip)))
  (.seq (.ops [
    ⟨(some 44), .load 4 true, [.tmp 1], none⟩,
    ⟨(some 45), .call 46, [.tmp 44], none⟩,
    ⟨(some 2), .mov, [.tmp 45], none⟩] false)
  .ret))))))⟩
theorem rrightMLow : lowF Try.prog {} Try.f20 = some rrightMIr := by kernel_rfl
def rrightMS : Spec := spec Mp (fun m => [aM m]) okM (fun m => I (rightM m))
theorem rrightMV : fnV Try.prog rrightMIr rrightMS := by
  intro (m : Mp) (hm : okM m)
  have hl1 : (m.nodes.map encN).length = m.nodes.length := List.length_map ..
  have hl2 : (m.lifts.map encL).length = m.lifts.length := List.length_map ..
  have hl3 : (m.runs.map encU).length = m.runs.length := List.length_map ..
  have hl4 : (m.bases.map e1).length = m.bases.length := List.length_map ..
  show vc _ _ _ _ ⟨argEnv 0 [aM m], [], 0⟩
  by_cases hb : 64 < m.nodes.length ∨ 32 < m.lifts.length ∨ 64 < m.runs.length ∨ 64 < m.bases.length
  · repeat' ((conv => whnf); first | (refine ⟨fun h => ?_, fun h => ?_⟩ <;> try (exfalso; first | omega | exact absurd h (by decide) | exact h rfl)) | fail | fail)
    all_goals (refine ⟨[], rfl, trivial, congrArg (CV.int .i64) ?_⟩; exact ((show rightM m = 4 from if_pos hb)).symm)
  have hR : rightM m = if fe (nodeE m.nodes) m.nodes.length ≠ 0 then fe (nodeE m.nodes) m.nodes.length else if fe (liftE m) m.lifts.length ≠ 0 then fe (liftE m) m.lifts.length else if fe (runE m) m.runs.length ≠ 0 then fe (runE m) m.runs.length else basesE m := if_neg hb
  generalize ha : fe (nodeE m.nodes) m.nodes.length = a at hR
  generalize hc : fe (liftE m) m.lifts.length = c at hR
  generalize hd : fe (runE m) m.runs.length = d at hR
  by_cases h1 : a = 0
  · rw [if_neg (Decidable.not_not.2 h1)] at hR
    by_cases h2 : c = 0
    · rw [if_neg (Decidable.not_not.2 h2)] at hR
      by_cases h3 : d = 0
      · rw [if_neg (Decidable.not_not.2 h3)] at hR
        repeat' ((conv => whnf); first | (refine ⟨fun h => ?_, fun h => ?_⟩ <;> try (exfalso; first | omega | exact absurd h (by decide) | exact h rfl)) | (refine ⟨_, rnodes_h, m.nodes, hm.1.1, leVs_of_eq rfl, .inl rfl, rfl, ?_⟩; show norm (I (fe (nodeE m.nodes) m.nodes.length)) _; rw [ha]) | (refine ⟨_, rlifts_h, m, hm, leVs_of_eq rfl, .inl rfl, rfl, ?_⟩; show norm (I (fe (liftE m) m.lifts.length)) _; rw [hc]) | (refine ⟨_, rruns_h, m, hm, leVs_of_eq rfl, .inl rfl, rfl, ?_⟩; show norm (I (fe (runE m) m.runs.length)) _; rw [hd]) | (refine ⟨_, rbases_h, m, hm, leVs_of_eq rfl, .inl rfl, rfl, ?_⟩; show norm (I (basesE m)) _) | fail | fail)
        all_goals (refine ⟨[], rfl, trivial, congrArg (CV.int .i64) ?_⟩; exact (hR).symm)
      · rw [if_pos h3] at hR
        repeat' ((conv => whnf); first | (refine ⟨fun h => ?_, fun h => ?_⟩ <;> try (exfalso; first | omega | exact absurd h (by decide) | exact h rfl)) | (refine ⟨_, rnodes_h, m.nodes, hm.1.1, leVs_of_eq rfl, .inl rfl, rfl, ?_⟩; show norm (I (fe (nodeE m.nodes) m.nodes.length)) _; rw [ha]) | (refine ⟨_, rlifts_h, m, hm, leVs_of_eq rfl, .inl rfl, rfl, ?_⟩; show norm (I (fe (liftE m) m.lifts.length)) _; rw [hc]) | (refine ⟨_, rruns_h, m, hm, leVs_of_eq rfl, .inl rfl, rfl, ?_⟩; show norm (I (fe (runE m) m.runs.length)) _; rw [hd]) | fail | fail)
        all_goals (refine ⟨[], rfl, trivial, congrArg (CV.int .i64) ?_⟩; exact (hR).symm)
    · rw [if_pos h2] at hR
      repeat' ((conv => whnf); first | (refine ⟨fun h => ?_, fun h => ?_⟩ <;> try (exfalso; first | omega | exact absurd h (by decide) | exact h rfl)) | (refine ⟨_, rnodes_h, m.nodes, hm.1.1, leVs_of_eq rfl, .inl rfl, rfl, ?_⟩; show norm (I (fe (nodeE m.nodes) m.nodes.length)) _; rw [ha]) | (refine ⟨_, rlifts_h, m, hm, leVs_of_eq rfl, .inl rfl, rfl, ?_⟩; show norm (I (fe (liftE m) m.lifts.length)) _; rw [hc]) | fail | fail)
      all_goals (refine ⟨[], rfl, trivial, congrArg (CV.int .i64) ?_⟩; exact (hR).symm)
  · rw [if_pos h1] at hR
    repeat' ((conv => whnf); first | (refine ⟨fun h => ?_, fun h => ?_⟩ <;> try (exfalso; first | omega | exact absurd h (by decide) | exact h rfl)) | (refine ⟨_, rnodes_h, m.nodes, hm.1.1, leVs_of_eq rfl, .inl rfl, rfl, ?_⟩; show norm (I (fe (nodeE m.nodes) m.nodes.length)) _; rw [ha]) | fail | fail)
    all_goals (refine ⟨[], rfl, trivial, congrArg (CV.int .i64) ?_⟩; exact (hR).symm)
theorem rrightM_h : Holds Try.prog 20 rrightMS := holds_of mix Try.func20 rrightMLow (fun _ => rfl) rrightMV

end Go.Proofs.Ytoeichkblclfaaa
