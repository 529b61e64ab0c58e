/- SplitSums: adding shares does not depend on the order of the lists. No condition. -/
import Derived.Test.YtepacknnggnifaaArg
import Derived.Test.YtepacknnggnifaaPC
namespace Go.Proofs.Ytepacknnggnifaa.lawSums
open Go.ChangeShapes Go.WideShapes Go.ChangeAt Go.RowKit Go.Deep Go.Joins
set_option linter.unusedVariables false

/-! skiarea/skiarealaw34.SplitSums -/
def lawIr : IFn := ⟨113, [.tmp 4],
  (.seq (.ops [
    ⟨(some 4), .mov, [.const (.bool false)], none⟩] false)
  (.seq (.seq (.ops [
    ⟨(some 16), .call 10, [], none⟩,
    ⟨(some 17), .not, [.tmp 16], none⟩] false)
  (.cond (.tmp 17)
    (.seq (.ops [
      ⟨(some 4), .mov, [.const (.bool false)], none⟩] false)
    .ret)
    .skip))
  (.seq (.seq (.ops [
    ⟨(some 18), .mov, [.tmp 0], none⟩,
    ⟨(some 19), .len, [.tmp 18], none⟩,
    ⟨(some 20), .cmp .gtr, [.tmp 19, .const (.int .i64 100)], none⟩,
    ⟨(some 21), .mov, [.tmp 20], none⟩,
    ⟨(some 22), .mov, [.tmp 1], (some (21, false))⟩,
    ⟨(some 23), .len, [.tmp 22], (some (21, false))⟩,
    ⟨(some 24), .cmp .gtr, [.tmp 23, .const (.int .i64 100)], (some (21, false))⟩,
    ⟨(some 25), .pick, [.tmp 21, .const (.bool true), .tmp 24], none⟩] false)
  (.cond (.tmp 25)
    (.seq (.ops [
      ⟨(some 4), .mov, [.const (.bool true)], none⟩] false)
    .ret)
    .skip))
  (.seq (.ops [
    ⟨(some 27), .mov, [.tmp 0], none⟩,
    ⟨(some 28), .mov, [.tmp 1], none⟩,
    ⟨(some 29), .call 18, [.tmp 27, .tmp 28], none⟩,
    ⟨(some 26), .mov, [.tmp 29], none⟩,
    ⟨(some 30), .extract 0, [.tmp 26], none⟩,
    ⟨(some 31), .extract 1, [.tmp 26], none⟩,
    ⟨(some 5), .mov, [.tmp 30], none⟩,
    ⟨(some 6), .mov, [.tmp 31], none⟩] false)
  (.seq (.ops [
    ⟨(some 33), .mov, [.tmp 1], none⟩,
    ⟨(some 34), .mov, [.tmp 0], none⟩,
    ⟨(some 35), .call 18, [.tmp 33, .tmp 34], none⟩,
    ⟨(some 32), .mov, [.tmp 35], none⟩,
    ⟨(some 36), .extract 0, [.tmp 32], none⟩,
    ⟨(some 37), .extract 1, [.tmp 32], none⟩,
    ⟨(some 7), .mov, [.tmp 36], none⟩,
    ⟨(some 8), .mov, [.tmp 37], none⟩] false)
  (.seq (.seq (.ops [
    ⟨(some 38), .mov, [.tmp 6], none⟩,
    ⟨(some 39), .cmp .neq, [.tmp 38, .const (.int .i64 0)], none⟩] false)
  (.cond (.tmp 39)
    (.seq (.ops [
      ⟨(some 40), .mov, [.tmp 5], none⟩,
      ⟨(some 41), .len, [.tmp 40], none⟩,
      ⟨(some 42), .cmp .eql, [.tmp 41, .const (.int .i64 0)], none⟩,
      ⟨(some 4), .mov, [.tmp 42], none⟩] false)
    .ret)
    .skip))
  (.seq (.seq (.ops [
    ⟨(some 43), .mov, [.tmp 8], none⟩,
    ⟨(some 44), .cmp .eql, [.tmp 43, .const (.int .i64 0)], none⟩,
    ⟨(some 45), .mov, [.tmp 44], none⟩,
    ⟨(some 46), .mov, [.tmp 5], (some (45, true))⟩,
    ⟨(some 47), .mov, [.tmp 7], (some (45, true))⟩,
    ⟨(some 48), .call 22, [.tmp 46, .tmp 47], (some (45, true))⟩,
    ⟨(some 49), .not, [.tmp 48], (some (45, true))⟩,
    ⟨(some 50), .pick, [.tmp 45, .tmp 49, .const (.bool false)], none⟩] false)
  (.cond (.tmp 50)
    (.seq (.ops [
      ⟨(some 4), .mov, [.const (.bool false)], none⟩] false)
    .ret)
    .skip))
  (.seq (.seq (.ops [
    ⟨(some 9), .mov, [.const (.int .i64 0)], none⟩] false)
  (.block 0
    (.loop
      (.seq (.seq (.ops [
        ⟨(some 51), .mov, [.tmp 9], none⟩,
        ⟨(some 52), .mov, [.tmp 5], none⟩,
        ⟨(some 53), .len, [.tmp 52], none⟩,
        ⟨(some 54), .cmp .lss, [.tmp 51, .tmp 53], none⟩] false)
      (.cond (.tmp 54)
        .skip
        (.exit 0)))
      (.seq (.block 1
        (.seq (.ops [
          ⟨(some 57), .mov, [.tmp 5], none⟩,
          ⟨(some 58), .mov, [.tmp 9], none⟩,
          ⟨(some 59), .idx 2, [.tmp 57, .tmp 58], none⟩,
          ⟨(some 60), .faddr 1, [.tmp 59], none⟩,
          ⟨(some 61), .load 1 false, [.tmp 60], none⟩,
          ⟨(some 62), .cmp .eql, [.tmp 61, .const (.int .i64 0)], none⟩,
          ⟨(some 63), .mov, [.tmp 62], none⟩,
          ⟨(some 64), .mov, [.tmp 9], (some (63, false))⟩,
          ⟨(some 65), .cmp .gtr, [.tmp 64, .const (.int .i64 0)], (some (63, false))⟩,
          ⟨(some 66), .mov, [.tmp 65], (some (63, false))⟩,
          ⟨(some 67), .mov, [.tmp 5], (some (66, true))⟩,
          ⟨(some 68), .mov, [.tmp 9], (some (66, true))⟩,
          ⟨(some 69), .idx 2, [.tmp 67, .tmp 68], (some (66, true))⟩,
          ⟨(some 70), .faddr 0, [.tmp 69], (some (66, true))⟩,
          ⟨(some 71), .load 1 false, [.tmp 70], (some (66, true))⟩,
          ⟨(some 72), .mov, [.tmp 5], (some (66, true))⟩,
          ⟨(some 73), .mov, [.tmp 9], (some (66, true))⟩,
          ⟨(some 74), .bin .sub .i64 false, [.tmp 73, .const (.int .i64 1)], (some (66, true))⟩,
          ⟨(some 75), .idx 2, [.tmp 72, .tmp 74], (some (66, true))⟩,
          ⟨(some 76), .faddr 0, [.tmp 75], (some (66, true))⟩,
          ⟨(some 77), .load 1 false, [.tmp 76], (some (66, true))⟩,
          ⟨(some 78), .cmp .leq, [.tmp 71, .tmp 77], (some (66, true))⟩,
          ⟨(some 79), .pick, [.tmp 66, .tmp 78, .const (.bool false)], (some (63, false))⟩,
          ⟨(some 80), .pick, [.tmp 63, .const (.bool true), .tmp 79], none⟩] true)
        (.cond (.tmp 80)
          (.seq (.ops [
            ⟨(some 4), .mov, [.const (.bool false)], none⟩] false)
          .ret)
          .skip)))
      (.ops [
        ⟨(some 55), .mov, [.tmp 9], none⟩,
        ⟨(some 56), .bin .add .i64 false, [.tmp 55, .const (.int .i64 1)], none⟩,
        ⟨(some 9), .mov, [.tmp 56], none⟩] false))))))
  (.seq (.ops [
    ⟨(some 82), .mov, [.tmp 0], none⟩,
    ⟨(some 83), .call 20, [.tmp 82], none⟩,
    ⟨(some 81), .mov, [.tmp 83], none⟩,
    ⟨(some 84), .extract 0, [.tmp 81], none⟩,
    ⟨(some 85), .extract 1, [.tmp 81], none⟩,
    ⟨(some 10), .mov, [.tmp 84], none⟩,
    ⟨(some 11), .mov, [.tmp 85], none⟩] false)
  (.seq (.ops [
    ⟨(some 87), .mov, [.tmp 1], none⟩,
    ⟨(some 88), .call 20, [.tmp 87], none⟩,
    ⟨(some 86), .mov, [.tmp 88], none⟩,
    ⟨(some 89), .extract 0, [.tmp 86], none⟩,
    ⟨(some 90), .extract 1, [.tmp 86], none⟩,
    ⟨(some 12), .mov, [.tmp 89], none⟩,
    ⟨(some 13), .mov, [.tmp 90], none⟩] false)
  (.seq (.ops [
    ⟨(some 92), .mov, [.tmp 5], none⟩,
    ⟨(some 93), .call 20, [.tmp 92], none⟩,
    ⟨(some 91), .mov, [.tmp 93], none⟩,
    ⟨(some 94), .extract 0, [.tmp 91], none⟩,
    ⟨(some 95), .extract 1, [.tmp 91], none⟩,
    ⟨(some 14), .mov, [.tmp 94], none⟩,
    ⟨(some 15), .mov, [.tmp 95], none⟩] false)
  (.seq (.ops [
    ⟨(some 96), .mov, [.tmp 11], none⟩,
    ⟨(some 97), .cmp .neq, [.tmp 96, .const (.int .i64 0)], none⟩,
    ⟨(some 98), .mov, [.tmp 97], none⟩,
    ⟨(some 99), .mov, [.tmp 13], (some (98, false))⟩,
    ⟨(some 100), .cmp .neq, [.tmp 99, .const (.int .i64 0)], (some (98, false))⟩,
    ⟨(some 101), .pick, [.tmp 98, .const (.bool true), .tmp 100], none⟩,
    ⟨(some 102), .mov, [.tmp 101], none⟩,
    ⟨(some 103), .mov, [.tmp 15], (some (102, false))⟩,
    ⟨(some 104), .cmp .neq, [.tmp 103, .const (.int .i64 0)], (some (102, false))⟩,
    ⟨(some 105), .pick, [.tmp 102, .const (.bool true), .tmp 104], none⟩,
    ⟨(some 106), .mov, [.tmp 105], none⟩,
    ⟨(some 107), .mov, [.tmp 14], (some (106, false))⟩,
    ⟨(some 108), .mov, [.tmp 10], (some (106, false))⟩,
    ⟨(some 109), .mov, [.tmp 12], (some (106, false))⟩,
    ⟨(some 110), .bin .add .i64 false, [.tmp 108, .tmp 109], (some (106, false))⟩,
    ⟨(some 111), .cmp .eql, [.tmp 107, .tmp 110], (some (106, false))⟩,
    ⟨(some 112), .pick, [.tmp 106, .const (.bool true), .tmp 111], none⟩,
    ⟨(some 4), .mov, [.tmp 112], none⟩] false)
  .ret))))))))))))⟩
theorem lawLow : lowF Try.prog {} Try.f8 = some lawIr := by kernel_rfl
def lawS : Spec := spec (List Share × List Share) (fun p => [L 2 (p.1.map encS), L 2 (p.2.map encS)]) (fun p => (∀ x ∈ p.1, okO x) ∧ ∀ x ∈ p.2, okO x) (fun _ => B true)
set_option maxHeartbeats 4000000 in
theorem lawV : fnV Try.prog lawIr lawS := by
  intro ⟨(a : List Share), (b : List Share)⟩ hx
  obtain ⟨o1, o2⟩ : (∀ x ∈ a, okO x) ∧ ∀ x ∈ b, okO x := hx
  show vc _ _ _ _ ⟨argEnv 0 [L 2 (a.map encS), L 2 (b.map encS)], [], 0⟩
  have hl : (a.map encS).length = a.length := List.length_map ..
  have hl2 : (b.map encS).length = b.length := List.length_map ..
  by_cases h8 : 100 < a.length ∨ 100 < b.length
  · repeat' ((conv => whnf); first | (refine ⟨fun h => ?_, fun h => ?_⟩ <;> try (exfalso; first | omega | exact absurd h (by decide) | exact h rfl)) | (refine ⟨_, alive_h, (), trivial, leVs_of_eq rfl, .inl rfl, rfl, ?_⟩; show norm (B true) _) | exact ⟨[], rfl, trivial, rfl⟩ | fail)
  have hpre : (a.length ≤ 100000 ∧ b.length ≤ 100000) ∧ ∀ x ∈ a ++ b, okO x := ⟨by omega, fun x hx => (List.mem_append.1 hx).elim (o1 x) (o2 x)⟩
  have hpre3 : (b.length ≤ 100000 ∧ a.length ≤ 100000) ∧ ∀ x ∈ b ++ a, okO x := ⟨by omega, fun x hx => (List.mem_append.1 hx).elim (o2 x) (o1 x)⟩
  by_cases hg : addO [] (a ++ b) = true
  · obtain ⟨P, hP⟩ : ∃ P, P = fewL (a ++ b) := ⟨_, rfl⟩
    have hPe : addT a b = .tup [L 2 (P.map encS), I 0] := by unfold addT; rw [if_pos hg, if_pos hg, hP]
    have hPl : P.length ≤ 200 := by
      have h1 : (fewL (a ++ b)).length ≤ (tabL (a ++ b)).length := List.length_filter_le _ _
      have h2 := tab_len (a ++ b)
      rw [List.length_append] at h2; rw [hP]; omega
    have hpl : (P.map encS).length = P.length := List.length_map ..
    have hPlt : P.Pairwise fun x y => x.o < y.o := by rw [hP]; exact fewL_lt _
    have hnz : ∀ x ∈ P, x.a ≠ 0 := fun x hx => fewL_nz (by rw [hP] at hx; exact hx)
    by_cases hf : addO [] (b ++ a) = true
    · have hQe : addT b a = .tup [L 2 (P.map encS), I 0] := by unfold addT; rw [if_pos hf, if_pos hf, hP, fewL_comm]
      repeat' ((conv => whnf); first | (refine ⟨fun h => ?_, fun h => ?_⟩ <;> try (exfalso; first | omega | exact absurd h (by decide) | exact h rfl)) | (refine ⟨_, alive_h, (), trivial, leVs_of_eq rfl, .inl rfl, rfl, ?_⟩; show norm (B true) _) | (refine ⟨_, add_h, (a, b), hpre, leVs_of_eq rfl, .inl rfl, rfl, ?_⟩; show norm (addT a b) _; rw [hPe]) | (refine ⟨_, add_h, (b, a), hpre3, leVs_of_eq rfl, .inl rfl, rfl, ?_⟩; show norm (addT b a) _; rw [hQe]) | (refine ⟨_, sameS_h, (P, P), (by show (P).length ≤ 9223372036854775807; omega), leVs_of_eq rfl, .inl rfl, rfl, ?_⟩; show norm (B (decide (P = P))) _; rw [decide_eq_true rfl]) | fail | fail)
      refine ⟨Nat, fun xq => ⟨[(0, L 2 (a.map encS)), (1, L 2 (b.map encS)), (5, L 2 (P.map encS)), (9, I xq)], [], 0⟩, fun xq => xq ≤ P.length, fun xq => P.length - xq, ⟨0, ?_, [], ⟨⟨rfl, rfl⟩, ⟨⟨rfl, rfl⟩, ⟨⟨rfl, rfl⟩, ⟨⟨rfl, rfl⟩, trivial⟩⟩⟩⟩, trivial, rfl, rfl, rfl⟩, ?_⟩
      · (try dsimp only); exact Nat.zero_le _
      rintro k hk
      obtain hk : k ≤ P.length := hk
      (try dsimp only)
      by_cases hkl : k < P.length
      · obtain ⟨x, hx⟩ := getElem_some hkl
        have hnz := hnz x (List.mem_of_getElem? hx)
        by_cases hk0 : k = 0
        · subst hk0
          repeat' ((conv => whnf); first | (refine ⟨fun h => ?_, fun h => ?_⟩ <;> try (exfalso; first | omega | exact absurd h (by decide) | exact h rfl)) | (refine ⟨by omega, fun r hrr => ?_⟩; first | ((have hre : r = encS x := by (first | exact get_row hrr hx | fail)); subst hre) | ((have hre : r = encS y := by (first | exact get_rowi (j := k - 1) hrr (by omega) hy | fail)); subst hre)) | (refine ⟨_ + 1, ⟨?_, by (try dsimp only); omega⟩, [], ⟨⟨rfl, rfl⟩, ⟨⟨rfl, rfl⟩, ⟨⟨rfl, rfl⟩, ⟨⟨rfl, rfl⟩, trivial⟩⟩⟩⟩, trivial, rfl, rfl, rfl⟩; (try dsimp only); omega) | refine ⟨⟨by omega, by omega⟩, ?_⟩ | fail)
        · obtain ⟨y, hy⟩ := getElem_some (show k - 1 < P.length by omega)
          have hlt : y.o < x.o := by
            have := List.pairwise_iff_getElem.1 hPlt (k - 1) k (by omega) hkl (by omega)
            rw [List.getElem?_eq_getElem hkl] at hx
            rw [List.getElem?_eq_getElem (by omega)] at hy
            rw [← Option.some.inj hx, ← Option.some.inj hy]; exact this
          repeat' ((conv => whnf); first | (refine ⟨fun h => ?_, fun h => ?_⟩ <;> try (exfalso; first | omega | exact absurd h (by decide) | exact h rfl)) | (refine ⟨by omega, fun r hrr => ?_⟩; first | ((have hre : r = encS x := by (first | exact get_row hrr hx | fail)); subst hre) | ((have hre : r = encS y := by (first | exact get_rowi (j := k - 1) hrr (by omega) hy | fail)); subst hre)) | (refine ⟨k + 1, ⟨?_, by (try dsimp only); omega⟩, [], ⟨⟨rfl, rfl⟩, ⟨⟨rfl, rfl⟩, ⟨⟨rfl, rfl⟩, ⟨⟨rfl, rfl⟩, trivial⟩⟩⟩⟩, trivial, rfl, rfl, rfl⟩; (try dsimp only); omega) | refine ⟨⟨by omega, by omega⟩, ?_⟩ | fail)
      · repeat' ((conv => whnf); first | (refine ⟨fun h => ?_, fun h => ?_⟩ <;> try (exfalso; first | omega | exact absurd h (by decide) | exact h rfl)) | fail | fail)
        cases hta : runO 0 (a.map fun x : Share => x.a) with
        | none =>
          cases htb : runO 0 (b.map fun x : Share => x.a) with
          | none => cases htp : runO 0 (P.map fun x : Share => x.a) with
            | none => repeat' ((conv => whnf); first | (refine ⟨fun h => ?_, fun h => ?_⟩ <;> try (exfalso; first | omega | exact absurd h (by decide) | exact h rfl)) | (refine ⟨_, total_h, a, (by show (a).length ≤ 1000000; omega), leVs_of_eq rfl, .inl rfl, rfl, ?_⟩; show norm (totT (runO 0 ((a).map fun x : Share => x.a))) _; rw [hta]) | (refine ⟨_, total_h, b, (by show (b).length ≤ 1000000; omega), leVs_of_eq rfl, .inl rfl, rfl, ?_⟩; show norm (totT (runO 0 ((b).map fun x : Share => x.a))) _; rw [htb]) | (refine ⟨_, total_h, P, (by show (P).length ≤ 1000000; omega), leVs_of_eq rfl, .inl rfl, rfl, ?_⟩; show norm (totT (runO 0 ((P).map fun x : Share => x.a))) _; rw [htp]) | exact ⟨[], rfl, trivial, rfl⟩ | fail)
            | some k => repeat' ((conv => whnf); first | (refine ⟨fun h => ?_, fun h => ?_⟩ <;> try (exfalso; first | omega | exact absurd h (by decide) | exact h rfl)) | (refine ⟨_, total_h, a, (by show (a).length ≤ 1000000; omega), leVs_of_eq rfl, .inl rfl, rfl, ?_⟩; show norm (totT (runO 0 ((a).map fun x : Share => x.a))) _; rw [hta]) | (refine ⟨_, total_h, b, (by show (b).length ≤ 1000000; omega), leVs_of_eq rfl, .inl rfl, rfl, ?_⟩; show norm (totT (runO 0 ((b).map fun x : Share => x.a))) _; rw [htb]) | (refine ⟨_, total_h, P, (by show (P).length ≤ 1000000; omega), leVs_of_eq rfl, .inl rfl, rfl, ?_⟩; show norm (totT (runO 0 ((P).map fun x : Share => x.a))) _; rw [htp]) | exact ⟨[], rfl, trivial, rfl⟩ | fail)
          | some m => cases htp : runO 0 (P.map fun x : Share => x.a) with
            | none => repeat' ((conv => whnf); first | (refine ⟨fun h => ?_, fun h => ?_⟩ <;> try (exfalso; first | omega | exact absurd h (by decide) | exact h rfl)) | (refine ⟨_, total_h, a, (by show (a).length ≤ 1000000; omega), leVs_of_eq rfl, .inl rfl, rfl, ?_⟩; show norm (totT (runO 0 ((a).map fun x : Share => x.a))) _; rw [hta]) | (refine ⟨_, total_h, b, (by show (b).length ≤ 1000000; omega), leVs_of_eq rfl, .inl rfl, rfl, ?_⟩; show norm (totT (runO 0 ((b).map fun x : Share => x.a))) _; rw [htb]) | (refine ⟨_, total_h, P, (by show (P).length ≤ 1000000; omega), leVs_of_eq rfl, .inl rfl, rfl, ?_⟩; show norm (totT (runO 0 ((P).map fun x : Share => x.a))) _; rw [htp]) | exact ⟨[], rfl, trivial, rfl⟩ | fail)
            | some k => repeat' ((conv => whnf); first | (refine ⟨fun h => ?_, fun h => ?_⟩ <;> try (exfalso; first | omega | exact absurd h (by decide) | exact h rfl)) | (refine ⟨_, total_h, a, (by show (a).length ≤ 1000000; omega), leVs_of_eq rfl, .inl rfl, rfl, ?_⟩; show norm (totT (runO 0 ((a).map fun x : Share => x.a))) _; rw [hta]) | (refine ⟨_, total_h, b, (by show (b).length ≤ 1000000; omega), leVs_of_eq rfl, .inl rfl, rfl, ?_⟩; show norm (totT (runO 0 ((b).map fun x : Share => x.a))) _; rw [htb]) | (refine ⟨_, total_h, P, (by show (P).length ≤ 1000000; omega), leVs_of_eq rfl, .inl rfl, rfl, ?_⟩; show norm (totT (runO 0 ((P).map fun x : Share => x.a))) _; rw [htp]) | exact ⟨[], rfl, trivial, rfl⟩ | fail)
        | some n =>
          have hn := runO_sum hta (by omega)
          cases htb : runO 0 (b.map fun x : Share => x.a) with
          | none => cases htp : runO 0 (P.map fun x : Share => x.a) with
            | none => repeat' ((conv => whnf); first | (refine ⟨fun h => ?_, fun h => ?_⟩ <;> try (exfalso; first | omega | exact absurd h (by decide) | exact h rfl)) | (refine ⟨_, total_h, a, (by show (a).length ≤ 1000000; omega), leVs_of_eq rfl, .inl rfl, rfl, ?_⟩; show norm (totT (runO 0 ((a).map fun x : Share => x.a))) _; rw [hta]) | (refine ⟨_, total_h, b, (by show (b).length ≤ 1000000; omega), leVs_of_eq rfl, .inl rfl, rfl, ?_⟩; show norm (totT (runO 0 ((b).map fun x : Share => x.a))) _; rw [htb]) | (refine ⟨_, total_h, P, (by show (P).length ≤ 1000000; omega), leVs_of_eq rfl, .inl rfl, rfl, ?_⟩; show norm (totT (runO 0 ((P).map fun x : Share => x.a))) _; rw [htp]) | exact ⟨[], rfl, trivial, rfl⟩ | fail)
            | some k => repeat' ((conv => whnf); first | (refine ⟨fun h => ?_, fun h => ?_⟩ <;> try (exfalso; first | omega | exact absurd h (by decide) | exact h rfl)) | (refine ⟨_, total_h, a, (by show (a).length ≤ 1000000; omega), leVs_of_eq rfl, .inl rfl, rfl, ?_⟩; show norm (totT (runO 0 ((a).map fun x : Share => x.a))) _; rw [hta]) | (refine ⟨_, total_h, b, (by show (b).length ≤ 1000000; omega), leVs_of_eq rfl, .inl rfl, rfl, ?_⟩; show norm (totT (runO 0 ((b).map fun x : Share => x.a))) _; rw [htb]) | (refine ⟨_, total_h, P, (by show (P).length ≤ 1000000; omega), leVs_of_eq rfl, .inl rfl, rfl, ?_⟩; show norm (totT (runO 0 ((P).map fun x : Share => x.a))) _; rw [htp]) | exact ⟨[], rfl, trivial, rfl⟩ | fail)
          | some m =>
            have hm := runO_sum htb (by omega)
            cases htp : runO 0 (P.map fun x : Share => x.a) with
            | none => repeat' ((conv => whnf); first | (refine ⟨fun h => ?_, fun h => ?_⟩ <;> try (exfalso; first | omega | exact absurd h (by decide) | exact h rfl)) | (refine ⟨_, total_h, a, (by show (a).length ≤ 1000000; omega), leVs_of_eq rfl, .inl rfl, rfl, ?_⟩; show norm (totT (runO 0 ((a).map fun x : Share => x.a))) _; rw [hta]) | (refine ⟨_, total_h, b, (by show (b).length ≤ 1000000; omega), leVs_of_eq rfl, .inl rfl, rfl, ?_⟩; show norm (totT (runO 0 ((b).map fun x : Share => x.a))) _; rw [htb]) | (refine ⟨_, total_h, P, (by show (P).length ≤ 1000000; omega), leVs_of_eq rfl, .inl rfl, rfl, ?_⟩; show norm (totT (runO 0 ((P).map fun x : Share => x.a))) _; rw [htp]) | refine ⟨⟨by omega, by omega⟩, ?_⟩ | exact ⟨[], rfl, trivial, rfl⟩ | fail)
            | some k =>
              have hkk : k = n + m := sums_total hta htb (by rw [← hP]; exact htp)
              repeat' ((conv => whnf); first | (refine ⟨fun h => ?_, fun h => ?_⟩ <;> try (exfalso; first | omega | exact absurd h (by decide) | exact h rfl)) | (refine ⟨_, total_h, a, (by show (a).length ≤ 1000000; omega), leVs_of_eq rfl, .inl rfl, rfl, ?_⟩; show norm (totT (runO 0 ((a).map fun x : Share => x.a))) _; rw [hta]) | (refine ⟨_, total_h, b, (by show (b).length ≤ 1000000; omega), leVs_of_eq rfl, .inl rfl, rfl, ?_⟩; show norm (totT (runO 0 ((b).map fun x : Share => x.a))) _; rw [htb]) | (refine ⟨_, total_h, P, (by show (P).length ≤ 1000000; omega), leVs_of_eq rfl, .inl rfl, rfl, ?_⟩; show norm (totT (runO 0 ((P).map fun x : Share => x.a))) _; rw [htp]) | refine ⟨⟨by omega, by omega⟩, ?_⟩ | exact ⟨[], rfl, trivial, rfl⟩ | fail)
    · have hQe : addT b a = .tup [L 2 [], I 12] := by unfold addT; rw [if_neg hf, if_neg hf]; rfl
      repeat' ((conv => whnf); first | (refine ⟨fun h => ?_, fun h => ?_⟩ <;> try (exfalso; first | omega | exact absurd h (by decide) | exact h rfl)) | (refine ⟨_, alive_h, (), trivial, leVs_of_eq rfl, .inl rfl, rfl, ?_⟩; show norm (B true) _) | (refine ⟨_, add_h, (a, b), hpre, leVs_of_eq rfl, .inl rfl, rfl, ?_⟩; show norm (addT a b) _; rw [hPe]) | (refine ⟨_, add_h, (b, a), hpre3, leVs_of_eq rfl, .inl rfl, rfl, ?_⟩; show norm (addT b a) _; rw [hQe]) | fail | fail)
      refine ⟨Nat, fun xq => ⟨[(0, L 2 (a.map encS)), (1, L 2 (b.map encS)), (5, L 2 (P.map encS)), (9, I xq)], [], 0⟩, fun xq => xq ≤ P.length, fun xq => P.length - xq, ⟨0, ?_, [], ⟨⟨rfl, rfl⟩, ⟨⟨rfl, rfl⟩, ⟨⟨rfl, rfl⟩, ⟨⟨rfl, rfl⟩, trivial⟩⟩⟩⟩, trivial, rfl, rfl, rfl⟩, ?_⟩
      · (try dsimp only); exact Nat.zero_le _
      rintro k hk
      obtain hk : k ≤ P.length := hk
      (try dsimp only)
      by_cases hkl : k < P.length
      · obtain ⟨x, hx⟩ := getElem_some hkl
        have hnz := hnz x (List.mem_of_getElem? hx)
        by_cases hk0 : k = 0
        · subst hk0
          repeat' ((conv => whnf); first | (refine ⟨fun h => ?_, fun h => ?_⟩ <;> try (exfalso; first | omega | exact absurd h (by decide) | exact h rfl)) | (refine ⟨by omega, fun r hrr => ?_⟩; first | ((have hre : r = encS x := by (first | exact get_row hrr hx | fail)); subst hre) | ((have hre : r = encS y := by (first | exact get_rowi (j := k - 1) hrr (by omega) hy | fail)); subst hre)) | (refine ⟨_ + 1, ⟨?_, by (try dsimp only); omega⟩, [], ⟨⟨rfl, rfl⟩, ⟨⟨rfl, rfl⟩, ⟨⟨rfl, rfl⟩, ⟨⟨rfl, rfl⟩, trivial⟩⟩⟩⟩, trivial, rfl, rfl, rfl⟩; (try dsimp only); omega) | refine ⟨⟨by omega, by omega⟩, ?_⟩ | fail)
        · obtain ⟨y, hy⟩ := getElem_some (show k - 1 < P.length by omega)
          have hlt : y.o < x.o := by
            have := List.pairwise_iff_getElem.1 hPlt (k - 1) k (by omega) hkl (by omega)
            rw [List.getElem?_eq_getElem hkl] at hx
            rw [List.getElem?_eq_getElem (by omega)] at hy
            rw [← Option.some.inj hx, ← Option.some.inj hy]; exact this
          repeat' ((conv => whnf); first | (refine ⟨fun h => ?_, fun h => ?_⟩ <;> try (exfalso; first | omega | exact absurd h (by decide) | exact h rfl)) | (refine ⟨by omega, fun r hrr => ?_⟩; first | ((have hre : r = encS x := by (first | exact get_row hrr hx | fail)); subst hre) | ((have hre : r = encS y := by (first | exact get_rowi (j := k - 1) hrr (by omega) hy | fail)); subst hre)) | (refine ⟨k + 1, ⟨?_, by (try dsimp only); omega⟩, [], ⟨⟨rfl, rfl⟩, ⟨⟨rfl, rfl⟩, ⟨⟨rfl, rfl⟩, ⟨⟨rfl, rfl⟩, trivial⟩⟩⟩⟩, trivial, rfl, rfl, rfl⟩; (try dsimp only); omega) | refine ⟨⟨by omega, by omega⟩, ?_⟩ | fail)
      · repeat' ((conv => whnf); first | (refine ⟨fun h => ?_, fun h => ?_⟩ <;> try (exfalso; first | omega | exact absurd h (by decide) | exact h rfl)) | fail | fail)
        cases hta : runO 0 (a.map fun x : Share => x.a) with
        | none =>
          cases htb : runO 0 (b.map fun x : Share => x.a) with
          | none => cases htp : runO 0 (P.map fun x : Share => x.a) with
            | none => repeat' ((conv => whnf); first | (refine ⟨fun h => ?_, fun h => ?_⟩ <;> try (exfalso; first | omega | exact absurd h (by decide) | exact h rfl)) | (refine ⟨_, total_h, a, (by show (a).length ≤ 1000000; omega), leVs_of_eq rfl, .inl rfl, rfl, ?_⟩; show norm (totT (runO 0 ((a).map fun x : Share => x.a))) _; rw [hta]) | (refine ⟨_, total_h, b, (by show (b).length ≤ 1000000; omega), leVs_of_eq rfl, .inl rfl, rfl, ?_⟩; show norm (totT (runO 0 ((b).map fun x : Share => x.a))) _; rw [htb]) | (refine ⟨_, total_h, P, (by show (P).length ≤ 1000000; omega), leVs_of_eq rfl, .inl rfl, rfl, ?_⟩; show norm (totT (runO 0 ((P).map fun x : Share => x.a))) _; rw [htp]) | exact ⟨[], rfl, trivial, rfl⟩ | fail)
            | some k => repeat' ((conv => whnf); first | (refine ⟨fun h => ?_, fun h => ?_⟩ <;> try (exfalso; first | omega | exact absurd h (by decide) | exact h rfl)) | (refine ⟨_, total_h, a, (by show (a).length ≤ 1000000; omega), leVs_of_eq rfl, .inl rfl, rfl, ?_⟩; show norm (totT (runO 0 ((a).map fun x : Share => x.a))) _; rw [hta]) | (refine ⟨_, total_h, b, (by show (b).length ≤ 1000000; omega), leVs_of_eq rfl, .inl rfl, rfl, ?_⟩; show norm (totT (runO 0 ((b).map fun x : Share => x.a))) _; rw [htb]) | (refine ⟨_, total_h, P, (by show (P).length ≤ 1000000; omega), leVs_of_eq rfl, .inl rfl, rfl, ?_⟩; show norm (totT (runO 0 ((P).map fun x : Share => x.a))) _; rw [htp]) | exact ⟨[], rfl, trivial, rfl⟩ | fail)
          | some m => cases htp : runO 0 (P.map fun x : Share => x.a) with
            | none => repeat' ((conv => whnf); first | (refine ⟨fun h => ?_, fun h => ?_⟩ <;> try (exfalso; first | omega | exact absurd h (by decide) | exact h rfl)) | (refine ⟨_, total_h, a, (by show (a).length ≤ 1000000; omega), leVs_of_eq rfl, .inl rfl, rfl, ?_⟩; show norm (totT (runO 0 ((a).map fun x : Share => x.a))) _; rw [hta]) | (refine ⟨_, total_h, b, (by show (b).length ≤ 1000000; omega), leVs_of_eq rfl, .inl rfl, rfl, ?_⟩; show norm (totT (runO 0 ((b).map fun x : Share => x.a))) _; rw [htb]) | (refine ⟨_, total_h, P, (by show (P).length ≤ 1000000; omega), leVs_of_eq rfl, .inl rfl, rfl, ?_⟩; show norm (totT (runO 0 ((P).map fun x : Share => x.a))) _; rw [htp]) | exact ⟨[], rfl, trivial, rfl⟩ | fail)
            | some k => repeat' ((conv => whnf); first | (refine ⟨fun h => ?_, fun h => ?_⟩ <;> try (exfalso; first | omega | exact absurd h (by decide) | exact h rfl)) | (refine ⟨_, total_h, a, (by show (a).length ≤ 1000000; omega), leVs_of_eq rfl, .inl rfl, rfl, ?_⟩; show norm (totT (runO 0 ((a).map fun x : Share => x.a))) _; rw [hta]) | (refine ⟨_, total_h, b, (by show (b).length ≤ 1000000; omega), leVs_of_eq rfl, .inl rfl, rfl, ?_⟩; show norm (totT (runO 0 ((b).map fun x : Share => x.a))) _; rw [htb]) | (refine ⟨_, total_h, P, (by show (P).length ≤ 1000000; omega), leVs_of_eq rfl, .inl rfl, rfl, ?_⟩; show norm (totT (runO 0 ((P).map fun x : Share => x.a))) _; rw [htp]) | exact ⟨[], rfl, trivial, rfl⟩ | fail)
        | some n =>
          have hn := runO_sum hta (by omega)
          cases htb : runO 0 (b.map fun x : Share => x.a) with
          | none => cases htp : runO 0 (P.map fun x : Share => x.a) with
            | none => repeat' ((conv => whnf); first | (refine ⟨fun h => ?_, fun h => ?_⟩ <;> try (exfalso; first | omega | exact absurd h (by decide) | exact h rfl)) | (refine ⟨_, total_h, a, (by show (a).length ≤ 1000000; omega), leVs_of_eq rfl, .inl rfl, rfl, ?_⟩; show norm (totT (runO 0 ((a).map fun x : Share => x.a))) _; rw [hta]) | (refine ⟨_, total_h, b, (by show (b).length ≤ 1000000; omega), leVs_of_eq rfl, .inl rfl, rfl, ?_⟩; show norm (totT (runO 0 ((b).map fun x : Share => x.a))) _; rw [htb]) | (refine ⟨_, total_h, P, (by show (P).length ≤ 1000000; omega), leVs_of_eq rfl, .inl rfl, rfl, ?_⟩; show norm (totT (runO 0 ((P).map fun x : Share => x.a))) _; rw [htp]) | exact ⟨[], rfl, trivial, rfl⟩ | fail)
            | some k => repeat' ((conv => whnf); first | (refine ⟨fun h => ?_, fun h => ?_⟩ <;> try (exfalso; first | omega | exact absurd h (by decide) | exact h rfl)) | (refine ⟨_, total_h, a, (by show (a).length ≤ 1000000; omega), leVs_of_eq rfl, .inl rfl, rfl, ?_⟩; show norm (totT (runO 0 ((a).map fun x : Share => x.a))) _; rw [hta]) | (refine ⟨_, total_h, b, (by show (b).length ≤ 1000000; omega), leVs_of_eq rfl, .inl rfl, rfl, ?_⟩; show norm (totT (runO 0 ((b).map fun x : Share => x.a))) _; rw [htb]) | (refine ⟨_, total_h, P, (by show (P).length ≤ 1000000; omega), leVs_of_eq rfl, .inl rfl, rfl, ?_⟩; show norm (totT (runO 0 ((P).map fun x : Share => x.a))) _; rw [htp]) | exact ⟨[], rfl, trivial, rfl⟩ | fail)
          | some m =>
            have hm := runO_sum htb (by omega)
            cases htp : runO 0 (P.map fun x : Share => x.a) with
            | none => repeat' ((conv => whnf); first | (refine ⟨fun h => ?_, fun h => ?_⟩ <;> try (exfalso; first | omega | exact absurd h (by decide) | exact h rfl)) | (refine ⟨_, total_h, a, (by show (a).length ≤ 1000000; omega), leVs_of_eq rfl, .inl rfl, rfl, ?_⟩; show norm (totT (runO 0 ((a).map fun x : Share => x.a))) _; rw [hta]) | (refine ⟨_, total_h, b, (by show (b).length ≤ 1000000; omega), leVs_of_eq rfl, .inl rfl, rfl, ?_⟩; show norm (totT (runO 0 ((b).map fun x : Share => x.a))) _; rw [htb]) | (refine ⟨_, total_h, P, (by show (P).length ≤ 1000000; omega), leVs_of_eq rfl, .inl rfl, rfl, ?_⟩; show norm (totT (runO 0 ((P).map fun x : Share => x.a))) _; rw [htp]) | refine ⟨⟨by omega, by omega⟩, ?_⟩ | exact ⟨[], rfl, trivial, rfl⟩ | fail)
            | some k =>
              have hkk : k = n + m := sums_total hta htb (by rw [← hP]; exact htp)
              repeat' ((conv => whnf); first | (refine ⟨fun h => ?_, fun h => ?_⟩ <;> try (exfalso; first | omega | exact absurd h (by decide) | exact h rfl)) | (refine ⟨_, total_h, a, (by show (a).length ≤ 1000000; omega), leVs_of_eq rfl, .inl rfl, rfl, ?_⟩; show norm (totT (runO 0 ((a).map fun x : Share => x.a))) _; rw [hta]) | (refine ⟨_, total_h, b, (by show (b).length ≤ 1000000; omega), leVs_of_eq rfl, .inl rfl, rfl, ?_⟩; show norm (totT (runO 0 ((b).map fun x : Share => x.a))) _; rw [htb]) | (refine ⟨_, total_h, P, (by show (P).length ≤ 1000000; omega), leVs_of_eq rfl, .inl rfl, rfl, ?_⟩; show norm (totT (runO 0 ((P).map fun x : Share => x.a))) _; rw [htp]) | refine ⟨⟨by omega, by omega⟩, ?_⟩ | exact ⟨[], rfl, trivial, rfl⟩ | fail)
  · have hPe : addT a b = .tup [L 2 [], I 12] := by unfold addT; rw [if_neg hg, if_neg hg]; rfl
    obtain ⟨Q, hQ⟩ : ∃ Q, Q = if addO [] (b ++ a) then fewL (b ++ a) else [] := ⟨_, rfl⟩
    obtain ⟨e, he⟩ : ∃ e : Int, e = if addO [] (b ++ a) then 0 else 12 := ⟨_, rfl⟩
    have hQe : addT b a = .tup [L 2 (Q.map encS), I e] := by rw [hQ, he]; rfl
    repeat' ((conv => whnf); first | (refine ⟨fun h => ?_, fun h => ?_⟩ <;> try (exfalso; first | omega | exact absurd h (by decide) | exact h rfl)) | (refine ⟨_, alive_h, (), trivial, leVs_of_eq rfl, .inl rfl, rfl, ?_⟩; show norm (B true) _) | (refine ⟨_, add_h, (a, b), hpre, leVs_of_eq rfl, .inl rfl, rfl, ?_⟩; show norm (addT a b) _; rw [hPe]) | (refine ⟨_, add_h, (b, a), hpre3, leVs_of_eq rfl, .inl rfl, rfl, ?_⟩; show norm (addT b a) _; rw [hQe]) | exact ⟨[], rfl, trivial, rfl⟩ | fail)
theorem law_h : Holds Try.prog 8 lawS := holds_of mix Try.func8 lawLow (fun _ => rfl) lawV

/-! ### THE ROW's STEP -/
theorem own : ownKnob Try.prog.godebug = none := by kernel_rfl
theorem laidOut : laidOutB Try.prog = true := by kernel_rfl
set_option maxRecDepth 100000 in
theorem lifted (os : Os) (started : os.Started) (H : Type) (enc : TypeId × Value → H) :
    ReturnsInHanded {} Try.checked os 8 .any (Rows.splitSumsSpec.pre6 enc Try.prog Try.f8 Rows.splitSumsRow.domain false) (Rows.splitSumsSpec.post enc Try.prog Try.f8 false true false false) := by
  refine returnsInHanded_of_change (C := Try.checked) own started (by kernel_rfl) Try.func8
    (ChangeSpec.witness6 (enc := enc) (C := Try.checked) false ⟨#[], #[.slice none 0 0, .slice none 0 0], []⟩ 8 (by kernel_rfl) (by kernel_rfl) (by kernel_rfl) (by kernel_rfl)) ?_
  intro W base args ds gs before hval0 hW hcnd _
  have hval : ∀ (j : Nat) t v, Try.f8.params[j]? = some t → args[j]? = some v → Value.okWide Try.prog W .any base t v := hval0
  have hW' := hW
  obtain ⟨p, q, hA0, hV, rfl, hfz, hnd⟩ := hW
  have hA : DataW.TrodAll enc Try.prog W 0 (fun _ => true) true Try.f8.params.toList args.toList ds p := hA0
  rw [Try.params8] at hA hval
  obtain ⟨v0, vs0, d0, ds0, p0, q0, hargs, rfl, rfl, h0, r0⟩ := trodAll_cons hA
  obtain ⟨v1, vs1, d1, ds1, p1, q1, rfl, rfl, rfl, h1, r1⟩ := trodAll_cons r0
  obtain ⟨rfl, rfl, rfl⟩ := trodAll_nil r1
  obtain rfl : args = #[v0, v1] := by cases args; simp_all
  obtain ⟨rfl, rfl⟩ := trodVars_none hV
  have lt0 : ∀ x ∈ p0, x.block < W.heap.size := by obtain ⟨m, hm⟩ := h0; exact DataW.trod_lt m _ _ _ hm
  obtain ⟨z0, w0, x0⟩ := openS (hval 0 32 v0 rfl rfl) h0
  have lt1 : ∀ x ∈ p1, x.block < W.heap.size := by obtain ⟨m, hm⟩ := h1; exact DataW.trod_lt m _ _ _ hm
  obtain ⟨z1, w1, x1⟩ := openS (hval 1 32 v1 rfl rfl) h1
  clear hA0 hval0
  refine Calls.mono (law_calls law_h (z0, z1) ⟨fun x hx => wf_of (w0.2 x hx).1, fun x hx => wf_of (w1.2 x hx).1⟩ rfl (vs := [v0, v1]) (replist_mk x0 (replist_mk x1 replist_mk0))) fun e W' ⟨he, bel⟩ => ?_
  subst he
  exact ⟨_, rfl, _, _, _, [], _, [], hW', trodAll_mk1 (shut_bool Try.underlying4 _), (trodAll_cons_mk (Below.trod laidOut (by kernel_rfl) (of_decide_eq_true (by kernel_rfl)) h0 bel lt0) (trodAll_cons_mk (Below.trod laidOut (by kernel_rfl) (of_decide_eq_true (by kernel_rfl)) h1 bel lt1) trodAll_mk0)), rfl, bel.frame _, fun h => by cases h⟩

theorem over : Rows.splitSumsRow.holds Try.pinned (OpenSpec.ofChange Rows.splitSumsSpec) :=
  OpenClaim.holds_of_wide 8 Try.f8 rfl rfl rfl rfl rfl rfl rfl ⟨rfl, rfl, rfl, rfl, rfl⟩ rfl rfl rfl rfl rfl (by kernel_rfl) Try.func8 (by kernel_rfl)
    (of_decide_eq_true (by kernel_rfl)) (by unfold Func.isWrapper; first | (rw [if_pos (by decide +kernel)]; kernel_rfl) | (rw [if_neg (by decide +kernel)]; exact ⟨rfl, rfl⟩))
    (fun os started H enc _ => lifted os started H enc)

theorem proved : Rows.SplitSumsSaid := over
end Go.Proofs.Ytepacknnggnifaa.lawSums
