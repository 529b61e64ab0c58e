/- Terrain: the reference's checks. -/
import Derived.Test.YtoeichkblclfaaaT2
namespace Go.Proofs.Ytoeichkblclfaaa
open Go.RowKit

/-! skiarea/skiarearef10.in -/
def rinIr : IFn := ⟨15, [.tmp 6],
  (.seq (.ops [
    ⟨(some 6), .mov, [.const (.bool false)], none⟩] false)
  (.seq (.ops [
    ⟨(some 7), .mov, [.tmp 0], none⟩,
    ⟨(some 8), .mov, [.tmp 1], none⟩,
    ⟨(some 9), .cmp .geq, [.tmp 7, .tmp 8], none⟩,
    ⟨(some 10), .mov, [.tmp 9], none⟩,
    ⟨(some 11), .mov, [.tmp 0], (some (10, true))⟩,
    ⟨(some 12), .mov, [.tmp 2], (some (10, true))⟩,
    ⟨(some 13), .cmp .leq, [.tmp 11, .tmp 12], (some (10, true))⟩,
    ⟨(some 14), .pick, [.tmp 10, .tmp 13, .const (.bool false)], none⟩,
    ⟨(some 6), .mov, [.tmp 14], none⟩] false)
  .ret))⟩
theorem rinLow : lowF Try.prog {} Try.f68 = some rinIr := by kernel_rfl
def rinS : Spec := spec (Int × Int × Int) (fun p => [I p.1, I p.2.1, I p.2.2]) (fun _ => True) (fun p => B (decide (within p.1 p.2.1 p.2.2)))
theorem rinV : fnV Try.prog rinIr rinS := by
  intro ⟨(n : Int), (a : Int), (b : Int)⟩ hx
  show vc _ _ _ _ ⟨argEnv 0 [I n, I a, I b], [], 0⟩
  by_cases h1 : a ≤ n
  · by_cases h2 : n ≤ b
    · repeat' ((conv => whnf); first | (refine ⟨fun h => ?_, fun h => ?_⟩ <;> try (exfalso; first | omega | exact absurd h (by decide) | exact h rfl)) | refine ⟨[], rfl, trivial, congrArg CV.bool ?_⟩ | fail)
      all_goals exact (decide_eq_true (show within n a b from ⟨h1, h2⟩)).symm
    · repeat' ((conv => whnf); first | (refine ⟨fun h => ?_, fun h => ?_⟩ <;> try (exfalso; first | omega | exact absurd h (by decide) | exact h rfl)) | refine ⟨[], rfl, trivial, congrArg CV.bool ?_⟩ | fail)
      all_goals exact (decide_eq_false fun (h : within n a b) => h2 h.2).symm
  · repeat' ((conv => whnf); first | (refine ⟨fun h => ?_, fun h => ?_⟩ <;> try (exfalso; first | omega | exact absurd h (by decide) | exact h rfl)) | refine ⟨[], rfl, trivial, congrArg CV.bool ?_⟩ | fail)
    all_goals exact (decide_eq_false fun (h : within n a b) => h1 h.1).symm
theorem rin_h : Holds Try.prog 68 rinS := holds_of mix Try.func68 rinLow (fun _ => rfl) rinV

/-! skiarea/skiarearef10.nodes -/
def rnodesIr : IFn := ⟨42, [.tmp 2],
  (.seq (.ops [
    ⟨(some 2), .mov, [.const (.int .i64 0)], none⟩] false)
  (.seq (.seq (.ops [
    ⟨(some 3), .mov, [.const (.int .i64 0)], none⟩] false)
  (.block 0
    (.loop
      (.seq (.seq (.ops [
        ⟨(some 4), .mov, [.tmp 3], none⟩,
        ⟨(some 5), .mov, [.tmp 0], none⟩,
        ⟨(some 6), .len, [.tmp 5], none⟩,
        ⟨(some 7), .cmp .lss, [.tmp 4, .tmp 6], none⟩] false)
      (.cond (.tmp 7)
        .skip
        (.exit 0)))
      (.seq (.block 1
        (.seq (.seq (.ops [
          ⟨(some 10), .mov, [.tmp 0], none⟩,
          ⟨(some 11), .mov, [.tmp 3], none⟩,
          ⟨(some 12), .idx 2, [.tmp 10, .tmp 11], none⟩,
          ⟨(some 13), .faddr 0, [.tmp 12], none⟩,
          ⟨(some 14), .load 1 false, [.tmp 13], none⟩,
          ⟨(some 15), .call 68, [.tmp 14, .const (.int .i64 1), .const (.int .i64 9999)], none⟩,
          ⟨(some 16), .not, [.tmp 15], none⟩,
          ⟨(some 17), .mov, [.tmp 16], none⟩,
          ⟨(some 18), .mov, [.tmp 0], (some (17, false))⟩,
          ⟨(some 19), .mov, [.tmp 3], (some (17, false))⟩,
          ⟨(some 20), .idx 2, [.tmp 18, .tmp 19], (some (17, false))⟩,
          ⟨(some 21), .faddr 1, [.tmp 20], (some (17, false))⟩,
          ⟨(some 22), .load 1 false, [.tmp 21], (some (17, false))⟩,
          ⟨(some 23), .call 68, [.tmp 22, .const (.int .i64 0), .const (.int .i64 5000)], (some (17, false))⟩,
          ⟨(some 24), .not, [.tmp 23], (some (17, false))⟩,
          ⟨(some 25), .pick, [.tmp 17, .const (.bool true), .tmp 24], none⟩] false)
        (.cond (.tmp 25)
          (.seq (.ops [
            ⟨(some 2), .mov, [.const (.int .i64 2)], none⟩] false)
          .ret)
          .skip))
        (.seq (.ops [
          ⟨(some 26), .mov, [.tmp 3], none⟩,
          ⟨(some 27), .cmp .gtr, [.tmp 26, .const (.int .i64 0)], none⟩,
          ⟨(some 28), .mov, [.tmp 27], none⟩,
          ⟨(some 29), .mov, [.tmp 0], (some (28, true))⟩,
          ⟨(some 30), .mov, [.tmp 3], (some (28, true))⟩,
          ⟨(some 31), .idx 2, [.tmp 29, .tmp 30], (some (28, true))⟩,
          ⟨(some 32), .faddr 0, [.tmp 31], (some (28, true))⟩,
          ⟨(some 33), .load 1 false, [.tmp 32], (some (28, true))⟩,
          ⟨(some 34), .mov, [.tmp 0], (some (28, true))⟩,
          ⟨(some 35), .mov, [.tmp 3], (some (28, true))⟩,
          ⟨(some 36), .bin .sub .i64 false, [.tmp 35, .const (.int .i64 1)], (some (28, true))⟩,
          ⟨(some 37), .idx 2, [.tmp 34, .tmp 36], (some (28, true))⟩,
          ⟨(some 38), .faddr 0, [.tmp 37], (some (28, true))⟩,
          ⟨(some 39), .load 1 false, [.tmp 38], (some (28, true))⟩,
          ⟨(some 40), .cmp .leq, [.tmp 33, .tmp 39], (some (28, true))⟩,
          ⟨(some 41), .pick, [.tmp 28, .tmp 40, .const (.bool false)], none⟩] true)
        (.cond (.tmp 41)
          (.seq (.ops [
            ⟨(some 2), .mov, [.const (.int .i64 7)], none⟩] false)
          .ret)
          .skip))))
      (.ops [
        ⟨(some 8), .mov, [.tmp 3], none⟩,
        ⟨(some 9), .bin .add .i64 false, [.tmp 8, .const (.int .i64 1)], none⟩,
        ⟨(some 3), .mov, [.tmp 9], none⟩] false))))))
  (.seq (.ops [
    ⟨(some 2), .mov, [.const (.int .i64 0)], none⟩] false)
  .ret)))⟩
theorem rnodesLow : lowF Try.prog {} Try.f43 = some rnodesIr := by kernel_rfl
def rnodesS : Spec := spec (List Node) (fun l => [L 2 (l.map encN)]) (fun l => l.length ≤ 9223372036854775807) (fun l => I (fe (nodeE l) l.length))
theorem rnodesV : fnV Try.prog rnodesIr rnodesS := by
  intro (l : List Node) hx
  replace hx : l.length ≤ 9223372036854775807 := hx
  have hl : (l.map encN).length = l.length := List.length_map ..
  show vc _ _ _ _ ⟨argEnv 0 [L 2 (l.map encN)], [], 0⟩
  conv => whnf
  refine ⟨Nat, fun xq => ⟨[(0, L 2 (l.map encN)), (3, I xq)], [], 0⟩, fun xq => xq ≤ l.length ∧ fe (nodeE l) xq = 0, fun xq => l.length - xq, ⟨0, ?_, [], ⟨⟨rfl, rfl⟩, ⟨⟨rfl, rfl⟩, trivial⟩⟩, trivial, rfl, rfl, rfl⟩, ?_⟩
  · (try dsimp only); exact ⟨Nat.zero_le _, rfl⟩
  rintro k hk
  obtain ⟨hk, h0⟩ : k ≤ l.length ∧ fe (nodeE l) k = 0 := hk
  (try dsimp only)
  by_cases hkl : k < l.length
  · obtain ⟨x, hx⟩ := getElem_some hkl
    have hE : nodeE l k = if ¬ (within x.id 1 9999 ∧ within x.alt 0 5000) then 2 else if 0 < k ∧ x.id ≤ (at_ l node0 (k - 1)).id then 7 else 0 := by unfold nodeE; rw [at_of hx]
    cases d0 : decide (within x.id 1 9999) with
    | false =>
      repeat' ((conv => whnf); first | (refine ⟨fun h => ?_, fun h => ?_⟩ <;> try (exfalso; first | omega | exact absurd h (by decide) | exact h rfl)) | (refine ⟨by omega, fun r hrr => ?_⟩; first | ((have hre : r = encN x := by (first | exact get_row hrr hx | fail)); subst hre)) | (refine ⟨_, rin_h, (x.id, 1, 9999), trivial, leVs_of_eq rfl, .inl rfl, rfl, ?_⟩; show norm (B (decide (within (x.id) 1 9999))) _; rw [d0]) | fail | fail)
      all_goals (refine ⟨[], rfl, trivial, congrArg (CV.int .i64) ?_⟩; exact (fe_hit hkl h0 (hE.trans (if_pos fun h => of_decide_eq_false d0 h.1)) (by decide)).symm)
    | true =>
      cases d1 : decide (within x.alt 0 5000) with
      | false =>
        repeat' ((conv => whnf); first | (refine ⟨fun h => ?_, fun h => ?_⟩ <;> try (exfalso; first | omega | exact absurd h (by decide) | exact h rfl)) | (refine ⟨by omega, fun r hrr => ?_⟩; first | ((have hre : r = encN x := by (first | exact get_row hrr hx | fail)); subst hre)) | (refine ⟨_, rin_h, (x.id, 1, 9999), trivial, leVs_of_eq rfl, .inl rfl, rfl, ?_⟩; show norm (B (decide (within (x.id) 1 9999))) _; rw [d0]) | (refine ⟨_, rin_h, (x.alt, 0, 5000), trivial, leVs_of_eq rfl, .inl rfl, rfl, ?_⟩; show norm (B (decide (within (x.alt) 0 5000))) _; rw [d1]) | fail | fail)
        all_goals (refine ⟨[], rfl, trivial, congrArg (CV.int .i64) ?_⟩; exact (fe_hit hkl h0 (hE.trans (if_pos fun h => of_decide_eq_false d1 h.2)) (by decide)).symm)
      | true =>
        have hc : within x.id 1 9999 ∧ within x.alt 0 5000 := ⟨of_decide_eq_true d0, of_decide_eq_true d1⟩
        rw [if_neg (Decidable.not_not.2 hc)] at hE
        by_cases hk0 : k = 0
        · subst hk0
          repeat' ((conv => whnf); first | (refine ⟨fun h => ?_, fun h => ?_⟩ <;> try (exfalso; first | omega | exact absurd h (by decide) | exact h rfl)) | (refine ⟨by omega, fun r hrr => ?_⟩; first | ((have hre : r = encN x := by (first | exact get_row hrr hx | fail)); subst hre)) | (refine ⟨_, rin_h, (x.id, 1, 9999), trivial, leVs_of_eq rfl, .inl rfl, rfl, ?_⟩; show norm (B (decide (within (x.id) 1 9999))) _; rw [d0]) | (refine ⟨_, rin_h, (x.alt, 0, 5000), trivial, leVs_of_eq rfl, .inl rfl, rfl, ?_⟩; show norm (B (decide (within (x.alt) 0 5000))) _; rw [d1]) | (refine ⟨_ + 1, ⟨?_, by (try dsimp only); omega⟩, [], ⟨⟨rfl, rfl⟩, ⟨⟨rfl, rfl⟩, trivial⟩⟩, trivial, rfl, rfl, rfl⟩; (try dsimp only); exact ⟨by omega, fe_go h0 (hE.trans (if_neg (by omega)))⟩) | refine ⟨⟨by omega, by omega⟩, ?_⟩ | fail)
        · obtain ⟨y, hy⟩ := getElem_some (show k - 1 < l.length by omega)
          rw [at_of hy] at hE
          by_cases hle : x.id ≤ y.id
          · repeat' ((conv => whnf); first | (refine ⟨fun h => ?_, fun h => ?_⟩ <;> try (exfalso; first | omega | exact absurd h (by decide) | exact h rfl)) | (refine ⟨by omega, fun r hrr => ?_⟩; first | ((have hre : r = encN x := by (first | exact get_row hrr hx | fail)); subst hre) | ((have hre : r = encN y := by (first | exact get_rowi (j := k - 1) hrr (by omega) hy | fail)); subst hre)) | (refine ⟨_, rin_h, (x.id, 1, 9999), trivial, leVs_of_eq rfl, .inl rfl, rfl, ?_⟩; show norm (B (decide (within (x.id) 1 9999))) _; rw [d0]) | (refine ⟨_, rin_h, (x.alt, 0, 5000), trivial, leVs_of_eq rfl, .inl rfl, rfl, ?_⟩; show norm (B (decide (within (x.alt) 0 5000))) _; rw [d1]) | refine ⟨⟨by omega, by omega⟩, ?_⟩ | fail | fail)
            all_goals (refine ⟨[], rfl, trivial, congrArg (CV.int .i64) ?_⟩; exact (fe_hit hkl h0 (hE.trans (if_pos ⟨by omega, hle⟩)) (by decide)).symm)
          · repeat' ((conv => whnf); first | (refine ⟨fun h => ?_, fun h => ?_⟩ <;> try (exfalso; first | omega | exact absurd h (by decide) | exact h rfl)) | (refine ⟨by omega, fun r hrr => ?_⟩; first | ((have hre : r = encN x := by (first | exact get_row hrr hx | fail)); subst hre) | ((have hre : r = encN y := by (first | exact get_rowi (j := k - 1) hrr (by omega) hy | fail)); subst hre)) | (refine ⟨_, rin_h, (x.id, 1, 9999), trivial, leVs_of_eq rfl, .inl rfl, rfl, ?_⟩; show norm (B (decide (within (x.id) 1 9999))) _; rw [d0]) | (refine ⟨_, rin_h, (x.alt, 0, 5000), trivial, leVs_of_eq rfl, .inl rfl, rfl, ?_⟩; show norm (B (decide (within (x.alt) 0 5000))) _; rw [d1]) | (refine ⟨k + 1, ⟨?_, by (try dsimp only); omega⟩, [], ⟨⟨rfl, rfl⟩, ⟨⟨rfl, rfl⟩, trivial⟩⟩, trivial, rfl, rfl, rfl⟩; (try dsimp only); exact ⟨by omega, fe_go h0 (hE.trans (if_neg (by omega)))⟩) | refine ⟨⟨by omega, by omega⟩, ?_⟩ | fail)
  · have hkn : k = l.length := by omega
    subst hkn
    repeat' ((conv => whnf); first | (refine ⟨fun h => ?_, fun h => ?_⟩ <;> try (exfalso; first | omega | exact absurd h (by decide) | exact h rfl)) | fail | fail)
    all_goals (refine ⟨[], rfl, trivial, congrArg (CV.int .i64) ?_⟩; exact (h0).symm)
theorem rnodes_h : Holds Try.prog 43 rnodesS := holds_of mix Try.func43 rnodesLow (fun _ => rfl) rnodesV

/-! skiarea/skiarearef10.rises -/
def rrisesIr : IFn := ⟨34, [.tmp 6],
  (.seq (.ops [
    ⟨(some 3), .box, [.tmp 0], none⟩,
    ⟨(some 6), .mov, [.const (.int .i64 0)], none⟩] false)
  (.seq (.ops [
    ⟨(some 12), .load 4 true, [.tmp 3], none⟩,
    ⟨(some 13), .mov, [.tmp 1], none⟩,
    ⟨(some 14), .call 71, [.tmp 12, .tmp 13], none⟩,
    ⟨(some 11), .mov, [.tmp 14], none⟩,
    ⟨(some 15), .extract 0, [.tmp 11], none⟩,
    ⟨(some 16), .extract 1, [.tmp 11], none⟩,
    ⟨(some 7), .alloc [.int .i64 0, .int .i64 0], [], none⟩,
    ⟨none, .store 2, [.tmp 7, .tmp 15], none⟩,
    ⟨(some 8), .mov, [.tmp 16], none⟩] false)
  (.seq (.ops [
    ⟨(some 18), .load 4 true, [.tmp 3], none⟩,
    ⟨(some 19), .mov, [.tmp 2], none⟩,
    ⟨(some 20), .call 71, [.tmp 18, .tmp 19], none⟩,
    ⟨(some 17), .mov, [.tmp 20], none⟩,
    ⟨(some 21), .extract 0, [.tmp 17], none⟩,
    ⟨(some 22), .extract 1, [.tmp 17], none⟩,
    ⟨(some 9), .alloc [.int .i64 0, .int .i64 0], [], none⟩,
    ⟨none, .store 2, [.tmp 9, .tmp 21], none⟩,
    ⟨(some 10), .mov, [.tmp 22], none⟩] false)
  (.seq (.seq (.ops [
    ⟨(some 23), .mov, [.tmp 8], none⟩,
    ⟨(some 24), .not, [.tmp 23], none⟩,
    ⟨(some 25), .mov, [.tmp 24], none⟩,
    ⟨(some 26), .mov, [.tmp 10], (some (25, false))⟩,
    ⟨(some 27), .not, [.tmp 26], (some (25, false))⟩,
    ⟨(some 28), .pick, [.tmp 25, .const (.bool true), .tmp 27], none⟩] false)
  (.cond (.tmp 28)
    (.seq (.ops [
      ⟨(some 6), .mov, [.const (.int .i64 8)], none⟩] false)
    .ret)
    .skip))
  (.seq (.seq (.ops [
    ⟨(some 29), .faddr 1, [.tmp 9], none⟩,
    ⟨(some 30), .load 1 false, [.tmp 29], none⟩,
    ⟨(some 31), .faddr 1, [.tmp 7], none⟩,
    ⟨(some 32), .load 1 false, [.tmp 31], none⟩,
    ⟨(some 33), .cmp .leq, [.tmp 30, .tmp 32], none⟩] false)
  (.cond (.tmp 33)
    (.seq (.ops [
      ⟨(some 6), .mov, [.const (.int .i64 11)], none⟩] false)
    .ret)
    .skip))
  (.seq (.ops [
    ⟨(some 6), .mov, [.const (.int .i64 0)], none⟩] false)
  .ret))))))⟩
theorem rrisesLow : lowF Try.prog {} Try.f69 = some rrisesIr := by kernel_rfl
def rrisesS : Spec := spec (Mp × Int × Int) (fun p => [aM p.1, I p.2.1, I p.2.2]) (fun p => okM p.1) (fun p => I (risesE p.1 p.2.1 p.2.2))
theorem rrisesV : fnV Try.prog rrisesIr rrisesS := by
  intro ⟨(m : Mp), (f : Int), (t : Int)⟩ hm
  replace hm : okM m := hm
  show vc _ _ _ _ ⟨argEnv 0 [aM m, I f, I t], [], 0⟩
  have hR : risesE m f t = if (nodeOf m f).isSome = false ∨ (nodeOf m t).isSome = false then 8 else if ((nodeOf m t).getD node0).alt ≤ ((nodeOf m f).getD node0).alt then 11 else 0 := rfl
  cases ha : nodeOf m f with
  | none =>
    rw [ha] at hR
    cases hb : nodeOf m t with
    | none => repeat' ((conv => whnf); first | (refine ⟨fun h => ?_, fun h => ?_⟩ <;> try (exfalso; first | omega | exact absurd h (by decide) | exact h rfl)) | (refine ⟨_, rnode_h, (m, f), hm, leVs_of_eq rfl, .inl rfl, rfl, ?_⟩; show norm (foundT encN node0 (nodeOf m f)) _; rw [ha]; show norm (.tup [aN node0, B false]) _) | (refine ⟨_, rnode_h, (m, t), hm, leVs_of_eq rfl, .inl rfl, rfl, ?_⟩; show norm (foundT encN node0 (nodeOf m t)) _; rw [hb]; show norm (.tup [aN node0, B false]) _) | fail | fail)
              all_goals (refine ⟨[], rfl, trivial, congrArg (CV.int .i64) ?_⟩; exact (hR.trans (if_pos (.inl rfl))).symm)
    | some y => repeat' ((conv => whnf); first | (refine ⟨fun h => ?_, fun h => ?_⟩ <;> try (exfalso; first | omega | exact absurd h (by decide) | exact h rfl)) | (refine ⟨_, rnode_h, (m, f), hm, leVs_of_eq rfl, .inl rfl, rfl, ?_⟩; show norm (foundT encN node0 (nodeOf m f)) _; rw [ha]; show norm (.tup [aN node0, B false]) _) | (refine ⟨_, rnode_h, (m, t), hm, leVs_of_eq rfl, .inl rfl, rfl, ?_⟩; show norm (foundT encN node0 (nodeOf m t)) _; rw [hb]; show norm (.tup [aN y, B true]) _) | fail | fail)
                all_goals (refine ⟨[], rfl, trivial, congrArg (CV.int .i64) ?_⟩; exact (hR.trans (if_pos (.inl rfl))).symm)
  | some x =>
    cases hb : nodeOf m t with
    | none =>
      rw [ha, hb] at hR
      repeat' ((conv => whnf); first | (refine ⟨fun h => ?_, fun h => ?_⟩ <;> try (exfalso; first | omega | exact absurd h (by decide) | exact h rfl)) | (refine ⟨_, rnode_h, (m, f), hm, leVs_of_eq rfl, .inl rfl, rfl, ?_⟩; show norm (foundT encN node0 (nodeOf m f)) _; rw [ha]; show norm (.tup [aN x, B true]) _) | (refine ⟨_, rnode_h, (m, t), hm, leVs_of_eq rfl, .inl rfl, rfl, ?_⟩; show norm (foundT encN node0 (nodeOf m t)) _; rw [hb]; show norm (.tup [aN node0, B false]) _) | fail | fail)
      all_goals (refine ⟨[], rfl, trivial, congrArg (CV.int .i64) ?_⟩; exact (hR.trans (if_pos (.inr rfl))).symm)
    | some y =>
      rw [ha, hb] at hR
      replace hR : risesE m f t = if y.alt ≤ x.alt then 11 else 0 := hR.trans (if_neg (by simp))
      by_cases hle : y.alt ≤ x.alt
      · repeat' ((conv => whnf); first | (refine ⟨fun h => ?_, fun h => ?_⟩ <;> try (exfalso; first | omega | exact absurd h (by decide) | exact h rfl)) | (refine ⟨_, rnode_h, (m, f), hm, leVs_of_eq rfl, .inl rfl, rfl, ?_⟩; show norm (foundT encN node0 (nodeOf m f)) _; rw [ha]; show norm (.tup [aN x, B true]) _) | (refine ⟨_, rnode_h, (m, t), hm, leVs_of_eq rfl, .inl rfl, rfl, ?_⟩; show norm (foundT encN node0 (nodeOf m t)) _; rw [hb]; show norm (.tup [aN y, B true]) _) | fail | fail)
        all_goals (refine ⟨[], rfl, trivial, congrArg (CV.int .i64) ?_⟩; exact (hR.trans (if_pos hle)).symm)
      · repeat' ((conv => whnf); first | (refine ⟨fun h => ?_, fun h => ?_⟩ <;> try (exfalso; first | omega | exact absurd h (by decide) | exact h rfl)) | (refine ⟨_, rnode_h, (m, f), hm, leVs_of_eq rfl, .inl rfl, rfl, ?_⟩; show norm (foundT encN node0 (nodeOf m f)) _; rw [ha]; show norm (.tup [aN x, B true]) _) | (refine ⟨_, rnode_h, (m, t), hm, leVs_of_eq rfl, .inl rfl, rfl, ?_⟩; show norm (foundT encN node0 (nodeOf m t)) _; rw [hb]; show norm (.tup [aN y, B true]) _) | fail | fail)
        all_goals (refine ⟨[], rfl, trivial, congrArg (CV.int .i64) ?_⟩; exact (hR.trans (if_neg hle)).symm)
theorem rrises_h : Holds Try.prog 69 rrisesS := holds_of mix Try.func69 rrisesLow (fun _ => rfl) rrisesV

/-! skiarea/skiarearef10.carriers -/
def rcarrIr : IFn := ⟨19, [.tmp 2],
  (.seq (.ops [
    ⟨(some 1), .box, [.tmp 0], none⟩,
    ⟨(some 2), .mov, [.const (.bool false)], none⟩] false)
  (.seq (.ops [
    ⟨(some 3), .faddr 4, [.tmp 1], none⟩,
    ⟨(some 4), .load 1 false, [.tmp 3], none⟩,
    ⟨(some 5), .bin .mul .i64 false, [.const (.int .i64 2), .tmp 4], none⟩,
    ⟨(some 6), .faddr 7, [.tmp 1], none⟩,
    ⟨(some 7), .load 1 false, [.tmp 6], none⟩,
    ⟨(some 8), .bin .rem .i64 false, [.tmp 5, .tmp 7], none⟩,
    ⟨(some 9), .cmp .eql, [.tmp 8, .const (.int .i64 0)], none⟩,
    ⟨(some 10), .mov, [.tmp 9], none⟩,
    ⟨(some 11), .faddr 4, [.tmp 1], (some (10, true))⟩,
    ⟨(some 12), .load 1 false, [.tmp 11], (some (10, true))⟩,
    ⟨(some 13), .bin .mul .i64 false, [.const (.int .i64 2), .tmp 12], (some (10, true))⟩,
    ⟨(some 14), .faddr 7, [.tmp 1], (some (10, true))⟩,
    ⟨(some 15), .load 1 false, [.tmp 14], (some (10, true))⟩,
    ⟨(some 16), .bin .quo .i64 false, [.tmp 13, .tmp 15], (some (10, true))⟩,
    ⟨(some 17), .call 68, [.tmp 16, .const (.int .i64 1), .const (.int .i64 200)], (some (10, true))⟩,
    ⟨(some 18), .pick, [.tmp 10, .tmp 17, .const (.bool false)], none⟩,
    ⟨(some 2), .mov, [.tmp 18], none⟩] false)
  .ret))⟩
theorem rcarrLow : lowF Try.prog {} Try.f70 = some rcarrIr := by kernel_rfl
def rcarrS : Spec := spec Lift (fun x => [aL x]) (fun x => (10 ≤ x.len ∧ x.len ≤ 6000) ∧ 5 ≤ x.sp ∧ x.sp ≤ 1000) (fun x => B (decide (carrP x)))
theorem rcarrV : fnV Try.prog rcarrIr rcarrS := by
  intro (x : Lift) hx
  obtain ⟨⟨l0, l1⟩, s0, s1⟩ : (10 ≤ x.len ∧ x.len ≤ 6000) ∧ 5 ≤ x.sp ∧ x.sp ≤ 1000 := hx
  show vc _ _ _ _ ⟨argEnv 0 [aL x], [], 0⟩
  have hq0 : 0 ≤ (2 * x.len).tdiv x.sp := Int.tdiv_nonneg (by omega) (by omega)
  have hq1 : (2 * x.len).tdiv x.sp ≤ 12000 := by rw [Int.tdiv_eq_ediv_of_nonneg (by omega)]; have := Int.ediv_le_self x.sp (show 0 ≤ 2 * x.len by omega); omega
  cases hd : decide (within ((2 * x.len).tdiv x.sp) 1 200) with
  | false =>
    repeat' ((conv => whnf); first | (refine ⟨fun h => ?_, fun h => ?_⟩ <;> try (exfalso; first | omega | exact absurd h (by decide) | exact h rfl)) | (refine ⟨_, rin_h, ((2 * x.len).tdiv x.sp, 1, 200), trivial, leVs_of_eq rfl, .inl rfl, rfl, ?_⟩; show norm (B (decide (within ((2 * x.len).tdiv x.sp) 1 200))) _; rw [hd]) | (refine ⟨⟨by omega, by omega, by omega⟩, ?_⟩) | (refine ⟨by omega, ?_⟩) | refine ⟨⟨by omega, by omega⟩, ?_⟩ | refine ⟨[], rfl, trivial, congrArg CV.bool ?_⟩ | fail)
    all_goals exact (decide_eq_false fun (h : carrP x) => of_decide_eq_false hd h.2).symm
  | true =>
    by_cases h0 : (2 * x.len).tmod x.sp = 0
    · repeat' ((conv => whnf); first | (refine ⟨fun h => ?_, fun h => ?_⟩ <;> try (exfalso; first | omega | exact absurd h (by decide) | exact h rfl)) | (refine ⟨_, rin_h, ((2 * x.len).tdiv x.sp, 1, 200), trivial, leVs_of_eq rfl, .inl rfl, rfl, ?_⟩; show norm (B (decide (within ((2 * x.len).tdiv x.sp) 1 200))) _; rw [hd]) | (refine ⟨⟨by omega, by omega, by omega⟩, ?_⟩) | (refine ⟨by omega, ?_⟩) | refine ⟨⟨by omega, by omega⟩, ?_⟩ | refine ⟨[], rfl, trivial, congrArg CV.bool ?_⟩ | fail)
      all_goals exact (decide_eq_true (show carrP x from ⟨h0, of_decide_eq_true hd⟩)).symm
    · repeat' ((conv => whnf); first | (refine ⟨fun h => ?_, fun h => ?_⟩ <;> try (exfalso; first | omega | exact absurd h (by decide) | exact h rfl)) | (refine ⟨_, rin_h, ((2 * x.len).tdiv x.sp, 1, 200), trivial, leVs_of_eq rfl, .inl rfl, rfl, ?_⟩; show norm (B (decide (within ((2 * x.len).tdiv x.sp) 1 200))) _; rw [hd]) | (refine ⟨⟨by omega, by omega, by omega⟩, ?_⟩) | (refine ⟨by omega, ?_⟩) | refine ⟨⟨by omega, by omega⟩, ?_⟩ | refine ⟨[], rfl, trivial, congrArg CV.bool ?_⟩ | fail)
      all_goals exact (decide_eq_false fun (h : carrP x) => h0 h.1).symm
theorem rcarr_h : Holds Try.prog 70 rcarrS := holds_of mix Try.func70 rcarrLow (fun _ => rfl) rcarrV

end Go.Proofs.Ytoeichkblclfaaa
