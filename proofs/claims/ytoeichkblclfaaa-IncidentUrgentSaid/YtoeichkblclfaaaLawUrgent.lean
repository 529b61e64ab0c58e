/- IncidentUrgent: Urgent returns the specified IDs of any right incidents: those that are Reported, once each, in their order. No condition. -/
import Derived.Test.YtoeichkblclfaaaArg
namespace Go.Proofs.Ytoeichkblclfaaa.lawUrgent
open Go.ChangeShapes Go.WideShapes Go.ChangeAt Go.RowKit Go.Deep Go.Joins
set_option linter.unusedVariables false
set_option maxRecDepth 20000

/-! skiarea/skiarealaw57.IncidentUrgent -/
def lawIr : IFn := ⟨81, [.tmp 2],
  (.seq (.ops [
    ⟨(some 2), .mov, [.const (.bool false)], none⟩] false)
  (.seq (.seq (.ops [
    ⟨(some 9), .call 9, [], none⟩,
    ⟨(some 10), .not, [.tmp 9], none⟩] false)
  (.cond (.tmp 10)
    (.seq (.ops [
      ⟨(some 2), .mov, [.const (.bool false)], none⟩] false)
    .ret)
    .skip))
  (.seq (.seq (.ops [
    ⟨(some 11), .mov, [.tmp 0], none⟩,
    ⟨(some 12), .call 12, [.tmp 11], none⟩,
    ⟨(some 13), .not, [.tmp 12], none⟩] false)
  (.cond (.tmp 13)
    (.seq (.ops [
      ⟨(some 2), .mov, [.const (.bool true)], none⟩] false)
    .ret)
    .skip))
  (.seq (.ops [
    ⟨(some 14), .mov, [.tmp 0], none⟩,
    ⟨(some 15), .call 16, [.tmp 14], none⟩,
    ⟨(some 3), .mov, [.tmp 15], none⟩] false)
  (.seq (.seq (.ops [
    ⟨(some 16), .mov, [.tmp 3], none⟩,
    ⟨(some 17), .mov, [.tmp 0], none⟩,
    ⟨(some 18), .call 18, [.tmp 17], none⟩,
    ⟨(some 19), .call 17, [.tmp 16, .tmp 18], none⟩,
    ⟨(some 20), .not, [.tmp 19], none⟩] false)
  (.cond (.tmp 20)
    (.seq (.ops [
      ⟨(some 2), .mov, [.const (.bool false)], none⟩] false)
    .ret)
    .skip))
  (.seq (.ops [
    ⟨(some 4), .mov, [.const (.bool false)], none⟩] false)
  (.seq (.seq (.ops [
    ⟨(some 5), .mov, [.const (.int .i64 0)], none⟩] false)
  (.block 0
    (.loop
      (.seq (.seq (.ops [
        ⟨(some 21), .mov, [.tmp 5], none⟩,
        ⟨(some 22), .mov, [.tmp 3], none⟩,
        ⟨(some 23), .len, [.tmp 22], none⟩,
        ⟨(some 24), .cmp .lss, [.tmp 21, .tmp 23], none⟩] false)
      (.cond (.tmp 24)
        .skip
        (.exit 0)))
      (.seq (.block 1
        (.seq (.ops [
          ⟨(some 27), .mov, [.tmp 0], none⟩,
          ⟨(some 28), .mov, [.tmp 3], none⟩,
          ⟨(some 29), .mov, [.tmp 5], none⟩,
          ⟨(some 30), .idx 1, [.tmp 28, .tmp 29], none⟩,
          ⟨(some 31), .load 1 false, [.tmp 30], none⟩,
          ⟨(some 32), .call 19, [.tmp 27, .tmp 31], none⟩,
          ⟨(some 6), .mov, [.tmp 32], none⟩] false)
        (.seq (.seq (.ops [
          ⟨(some 33), .mov, [.tmp 6], none⟩,
          ⟨(some 34), .cmp .lss, [.tmp 33, .const (.int .i64 0)], none⟩,
          ⟨(some 35), .mov, [.tmp 34], none⟩,
          ⟨(some 36), .mov, [.tmp 0], (some (35, false))⟩,
          ⟨(some 37), .mov, [.tmp 6], (some (35, false))⟩,
          ⟨(some 38), .idx 6, [.tmp 36, .tmp 37], (some (35, false))⟩,
          ⟨(some 39), .faddr 3, [.tmp 38], (some (35, false))⟩,
          ⟨(some 40), .load 1 false, [.tmp 39], (some (35, false))⟩,
          ⟨(some 41), .cmp .neq, [.tmp 40, .const (.int .i64 1)], (some (35, false))⟩,
          ⟨(some 42), .pick, [.tmp 35, .const (.bool true), .tmp 41], none⟩,
          ⟨(some 43), .mov, [.tmp 42], none⟩,
          ⟨(some 44), .mov, [.tmp 4], (some (43, false))⟩,
          ⟨(some 45), .mov, [.tmp 44], (some (43, false))⟩,
          ⟨(some 46), .mov, [.tmp 0], (some (45, true))⟩,
          ⟨(some 47), .mov, [.tmp 6], (some (45, true))⟩,
          ⟨(some 48), .idx 6, [.tmp 46, .tmp 47], (some (45, true))⟩,
          ⟨(some 49), .faddr 2, [.tmp 48], (some (45, true))⟩,
          ⟨(some 50), .load 1 false, [.tmp 49], (some (45, true))⟩,
          ⟨(some 51), .cmp .leq, [.tmp 50, .const (.int .i64 1)], (some (45, true))⟩,
          ⟨(some 52), .pick, [.tmp 45, .tmp 51, .const (.bool false)], (some (43, false))⟩,
          ⟨(some 53), .pick, [.tmp 43, .const (.bool true), .tmp 52], none⟩] false)
        (.cond (.tmp 53)
          (.seq (.ops [
            ⟨(some 2), .mov, [.const (.bool false)], none⟩] false)
          .ret)
          .skip))
        (.ops [
          ⟨(some 54), .mov, [.tmp 4], none⟩,
          ⟨(some 55), .mov, [.tmp 54], none⟩,
          ⟨(some 56), .mov, [.tmp 0], (some (55, false))⟩,
          ⟨(some 57), .mov, [.tmp 6], (some (55, false))⟩,
          ⟨(some 58), .idx 6, [.tmp 56, .tmp 57], (some (55, false))⟩,
          ⟨(some 59), .faddr 2, [.tmp 58], (some (55, false))⟩,
          ⟨(some 60), .load 1 false, [.tmp 59], (some (55, false))⟩,
          ⟨(some 61), .cmp .gtr, [.tmp 60, .const (.int .i64 1)], (some (55, false))⟩,
          ⟨(some 62), .pick, [.tmp 55, .const (.bool true), .tmp 61], none⟩,
          ⟨(some 4), .mov, [.tmp 62], none⟩] false))))
      (.ops [
        ⟨(some 25), .mov, [.tmp 5], none⟩,
        ⟨(some 26), .bin .add .i64 false, [.tmp 25, .const (.int .i64 1)], none⟩,
        ⟨(some 5), .mov, [.tmp 26], none⟩] false))))))
  (.seq (.ops [
    ⟨(some 7), .mov, [.const (.int .i64 0)], none⟩] false)
  (.seq (.seq (.ops [
    ⟨(some 8), .mov, [.const (.int .i64 0)], none⟩] false)
  (.block 2
    (.loop
      (.seq (.seq (.ops [
        ⟨(some 63), .mov, [.tmp 8], none⟩,
        ⟨(some 64), .mov, [.tmp 0], none⟩,
        ⟨(some 65), .len, [.tmp 64], none⟩,
        ⟨(some 66), .cmp .lss, [.tmp 63, .tmp 65], none⟩] false)
      (.cond (.tmp 66)
        .skip
        (.exit 2)))
      (.seq (.block 3
        (.seq (.ops [
          ⟨(some 69), .mov, [.tmp 0], none⟩,
          ⟨(some 70), .mov, [.tmp 8], none⟩,
          ⟨(some 71), .idx 6, [.tmp 69, .tmp 70], none⟩,
          ⟨(some 72), .faddr 3, [.tmp 71], none⟩,
          ⟨(some 73), .load 1 false, [.tmp 72], none⟩,
          ⟨(some 74), .cmp .eql, [.tmp 73, .const (.int .i64 1)], none⟩] false)
        (.cond (.tmp 74)
          (.ops [
            ⟨(some 75), .mov, [.tmp 7], none⟩,
            ⟨(some 76), .bin .add .i64 false, [.tmp 75, .const (.int .i64 1)], none⟩,
            ⟨(some 7), .mov, [.tmp 76], none⟩] false)
          .skip)))
      (.ops [
        ⟨(some 67), .mov, [.tmp 8], none⟩,
        ⟨(some 68), .bin .add .i64 false, [.tmp 67, .const (.int .i64 1)], none⟩,
        ⟨(some 8), .mov, [.tmp 68], none⟩] false))))))
  (.seq (.ops [
    ⟨(some 77), .mov, [.tmp 3], none⟩,
    ⟨(some 78), .len, [.tmp 77], none⟩,
    ⟨(some 79), .mov, [.tmp 7], none⟩,
    ⟨(some 80), .cmp .eql, [.tmp 78, .tmp 79], none⟩,
    ⟨(some 2), .mov, [.tmp 80], none⟩] false)
  .ret))))))))))⟩
theorem lawLow : lowF Try.prog {} Try.f5 = some lawIr := by kernel_rfl
def lawS : Spec := spec (List Inc) (fun l => [L 6 (l.map encI)]) (fun l => l.length ≤ 9223372036854775807) (fun _ => B true)
set_option maxHeartbeats 1000000 in
theorem lawV : fnV Try.prog lawIr lawS := by
  intro (l : List Inc) (hl0 : l.length ≤ 9223372036854775807)
  have hl : (l.map encI).length = l.length := List.length_map ..
  show vc _ _ _ _ ⟨argEnv 0 [L 6 (l.map encI)], [], 0⟩
  by_cases h0 : rightI l = 0
  · have hlen := len_of h0
    have hid := ids_of h0
    obtain ⟨U, hU⟩ : ∃ U, urgF l = U := ⟨_, rfl⟩
    have hUl : U.length = (waitL l).length := by rw [← hU]; unfold urgF; rw [List.length_map, (urgL_perm l).length_eq]
    have hwl := wait_len l
    have hle : (U.map e1).length = U.length := List.length_map ..
    repeat' ((conv => whnf); first | (refine ⟨fun h => ?_, fun h => ?_⟩ <;> try (exfalso; first | omega | exact absurd h (by decide) | exact h rfl | exact absurd (show true = false from h) (by decide) | exact absurd (show false = true from h) (by decide))) | (refine ⟨_, alive_h, (), trivial, leVs_of_eq rfl, .inl rfl, rfl, ?_⟩; show norm (B true) _) | (refine ⟨_, lright_h, l, hl0, leVs_of_eq rfl, .inl rfl, rfl, ?_⟩; show norm (B (decide (rightI l = 0))) _; rw [decide_eq_true h0]) | (refine ⟨_, urgent_h, l, ⟨hid, (by show l.length ≤ 1000000; omega)⟩, leVs_of_eq rfl, .inl rfl, rfl, ?_⟩; show norm (L 1 ((urgF l).map e1)) _; rw [hU]) | (refine ⟨_, rurgent_h, l, ⟨hid, (by show l.length ≤ 1000000; omega)⟩, leVs_of_eq rfl, .inl rfl, rfl, ?_⟩; show norm (L 1 ((urgF l).map e1)) _; rw [hU]) | (refine ⟨_, lsame_h, (U, U), (by show U.length ≤ 9223372036854775807; omega), leVs_of_eq rfl, .inl rfl, rfl, ?_⟩; show norm (B (decide (U = U))) _; rw [decide_eq_true rfl]) | fail | fail)
    refine ⟨Nat × Bool, fun xq => ⟨[(0, L 6 (l.map encI)), (3, L 1 (U.map e1)), (4, B xq.2), (5, I xq.1)], [], 0⟩, fun xq => xq.1 ≤ U.length ∧ (xq.2 = true → ∃ (j : Nat) (y : Inc), j < xq.1 ∧ (urgL l)[j]? = some y ∧ 1 < y.tri), fun xq => U.length - xq.1, ⟨(0, false), ?_, [], ⟨⟨rfl, rfl⟩, ⟨⟨rfl, rfl⟩, ⟨⟨rfl, rfl⟩, ⟨⟨rfl, rfl⟩, trivial⟩⟩⟩⟩, trivial, rfl, rfl, rfl⟩, ?_⟩
    · (try dsimp only); exact ⟨Nat.zero_le _, fun h => by cases h⟩
    rintro ⟨i, b⟩ hk
    obtain ⟨hi, hb⟩ : i ≤ U.length ∧ (b = true → ∃ (j : Nat) (y : Inc), j < i ∧ (urgL l)[j]? = some y ∧ 1 < y.tri) := hk
    (try dsimp only)
    by_cases hiU : i < U.length
    · obtain ⟨u, hu⟩ := getElem_some hiU
      obtain ⟨x, hx, hxu⟩ : ∃ x, (urgL l)[i]? = some x ∧ x.id = u := by
        have hu2 := hu
        rw [← hU] at hu2; unfold urgF at hu2; rw [List.getElem?_map] at hu2
        cases hq : (urgL l)[i]? with
        | none => rw [hq] at hu2; cases hu2
        | some x => rw [hq] at hu2; cases hu2; exact ⟨x, rfl, rfl⟩
      obtain ⟨k, y, hix, hy, hyu⟩ := urg_find (l := l) (i := u) (by rw [hU]; exact List.mem_of_getElem? hu)
      have hxw : x ∈ waitL l := (urgL_perm l).mem_iff.1 (List.mem_of_getElem? hx)
      obtain ⟨hxl, hxs⟩ := List.mem_filter.1 hxw
      have hxy : y = x := ids_mem hid (List.mem_of_getElem? hy) hxl (by rw [hyu, hxu])
      have hst : y.st = 1 := by rw [hxy]; exact of_decide_eq_true hxs
      have hkl := (List.getElem?_eq_some_iff.1 hy).1
      by_cases ht : y.tri ≤ 1
      · have hbf : b = false := by
          cases b with
          | false => rfl
          | true =>
            exfalso
            obtain ⟨j, z, hj, hz, h1⟩ := hb rfl
            obtain ⟨q1, q2⟩ := List.getElem?_eq_some_iff.1 hz
            obtain ⟨q3, q4⟩ := List.getElem?_eq_some_iff.1 hx
            have := List.pairwise_iff_getElem.1 (urgL_bef hid) j i q1 q3 hj
            rw [q2, q4, ← hxy] at this
            unfold befI at this; omega
        subst hbf
        repeat' ((conv => whnf); first | (refine ⟨fun h => ?_, fun h => ?_⟩ <;> try (exfalso; first | omega | exact absurd h (by decide) | exact h rfl | exact absurd (show true = false from h) (by decide) | exact absurd (show false = true from h) (by decide))) | (refine ⟨by omega, fun r hrr => ?_⟩; first | ((have hre : r = e1 u := by (first | exact get_row hrr hu | fail)); subst hre) | ((have hre : r = encI y := by (first | exact get_row hrr hy | fail)); subst hre)) | (refine ⟨_, rfind_h, (l, u), hl0, leVs_of_eq rfl, .inl rfl, rfl, ?_⟩; show norm (I (ixF (idB u) l)) _; rw [hix]) | (refine ⟨(i + 1, false), ⟨?_, by (try dsimp only); omega⟩, [], ⟨⟨rfl, rfl⟩, ⟨⟨rfl, rfl⟩, ⟨⟨rfl, rfl⟩, ⟨⟨rfl, rfl⟩, trivial⟩⟩⟩⟩, trivial, rfl, rfl, rfl⟩; (try dsimp only); exact ⟨by omega, fun h => by cases h⟩) | (refine And.intro (And.intro (by omega) (by omega)) ?_) | fail | fail)
      · have hb2 : ∃ (j : Nat) (y : Inc), j < i + 1 ∧ (urgL l)[j]? = some y ∧ 1 < y.tri := ⟨i, x, by omega, hx, by rw [← hxy]; omega⟩
        cases b with
        | true => repeat' ((conv => whnf); first | (refine ⟨fun h => ?_, fun h => ?_⟩ <;> try (exfalso; first | omega | exact absurd h (by decide) | exact h rfl | exact absurd (show true = false from h) (by decide) | exact absurd (show false = true from h) (by decide))) | (refine ⟨by omega, fun r hrr => ?_⟩; first | ((have hre : r = e1 u := by (first | exact get_row hrr hu | fail)); subst hre) | ((have hre : r = encI y := by (first | exact get_row hrr hy | fail)); subst hre)) | (refine ⟨_, rfind_h, (l, u), hl0, leVs_of_eq rfl, .inl rfl, rfl, ?_⟩; show norm (I (ixF (idB u) l)) _; rw [hix]) | (refine ⟨(i + 1, true), ⟨?_, by (try dsimp only); omega⟩, [], ⟨⟨rfl, rfl⟩, ⟨⟨rfl, rfl⟩, ⟨⟨rfl, rfl⟩, ⟨⟨rfl, rfl⟩, trivial⟩⟩⟩⟩, trivial, rfl, rfl, rfl⟩; (try dsimp only); exact ⟨by omega, fun _ => hb2⟩) | (refine And.intro (And.intro (by omega) (by omega)) ?_) | fail | fail)
        | false => repeat' ((conv => whnf); first | (refine ⟨fun h => ?_, fun h => ?_⟩ <;> try (exfalso; first | omega | exact absurd h (by decide) | exact h rfl | exact absurd (show true = false from h) (by decide) | exact absurd (show false = true from h) (by decide))) | (refine ⟨by omega, fun r hrr => ?_⟩; first | ((have hre : r = e1 u := by (first | exact get_row hrr hu | fail)); subst hre) | ((have hre : r = encI y := by (first | exact get_row hrr hy | fail)); subst hre)) | (refine ⟨_, rfind_h, (l, u), hl0, leVs_of_eq rfl, .inl rfl, rfl, ?_⟩; show norm (I (ixF (idB u) l)) _; rw [hix]) | (refine ⟨(i + 1, true), ⟨?_, by (try dsimp only); omega⟩, [], ⟨⟨rfl, rfl⟩, ⟨⟨rfl, rfl⟩, ⟨⟨rfl, rfl⟩, ⟨⟨rfl, rfl⟩, trivial⟩⟩⟩⟩, trivial, rfl, rfl, rfl⟩; (try dsimp only); exact ⟨by omega, fun _ => hb2⟩) | (refine And.intro (And.intro (by omega) (by omega)) ?_) | fail | fail)
    · repeat' ((conv => whnf); first | (refine ⟨fun h => ?_, fun h => ?_⟩ <;> try (exfalso; first | omega | exact absurd h (by decide) | exact h rfl | exact absurd (show true = false from h) (by decide) | exact absurd (show false = true from h) (by decide))) | fail | fail)
      refine ⟨Nat × Nat, fun xq => ⟨[(0, L 6 (l.map encI)), (3, L 1 (U.map e1)), (7, I (xq.2 : Int)), (8, I xq.1)], [], 0⟩, fun xq => xq.1 ≤ l.length ∧ xq.2 = (waitL (l.take xq.1)).length, fun xq => l.length - xq.1, ⟨(0, 0), ?_, [], ⟨⟨rfl, rfl⟩, ⟨⟨rfl, rfl⟩, ⟨⟨rfl, rfl⟩, ⟨⟨rfl, rfl⟩, trivial⟩⟩⟩⟩, trivial, rfl, rfl, rfl⟩, ?_⟩
      · (try dsimp only); exact ⟨Nat.zero_le _, rfl⟩
      rintro ⟨k, n⟩ hk
      obtain ⟨hk, hn⟩ : k ≤ l.length ∧ n = (waitL (l.take k)).length := hk
      (try dsimp only)
      have hnl := wait_len (l.take k)
      rw [← hn, List.length_take] at hnl
      by_cases hkl : k < l.length
      · obtain ⟨y, hy⟩ := getElem_some hkl
        by_cases hst : y.st = 1
        · have hw := wait_yes hy hst
          repeat' ((conv => whnf); first | (refine ⟨fun h => ?_, fun h => ?_⟩ <;> try (exfalso; first | omega | exact absurd h (by decide) | exact h rfl | exact absurd (show true = false from h) (by decide) | exact absurd (show false = true from h) (by decide))) | (refine ⟨by omega, fun r hrr => ?_⟩; first | ((have hre : r = encI y := by (first | exact get_row hrr hy | fail)); subst hre)) | (refine ⟨(k + 1, n + 1), ⟨?_, by (try dsimp only); omega⟩, [], ⟨⟨rfl, rfl⟩, ⟨⟨rfl, rfl⟩, ⟨⟨rfl, rfl⟩, ⟨⟨rfl, rfl⟩, trivial⟩⟩⟩⟩, trivial, rfl, rfl, rfl⟩; (try dsimp only); exact ⟨by omega, by rw [hw, List.length_append, ← hn]; rfl⟩) | (refine And.intro (And.intro (by omega) (by omega)) ?_) | fail | fail)
        · have hw := wait_no hy hst
          repeat' ((conv => whnf); first | (refine ⟨fun h => ?_, fun h => ?_⟩ <;> try (exfalso; first | omega | exact absurd h (by decide) | exact h rfl | exact absurd (show true = false from h) (by decide) | exact absurd (show false = true from h) (by decide))) | (refine ⟨by omega, fun r hrr => ?_⟩; first | ((have hre : r = encI y := by (first | exact get_row hrr hy | fail)); subst hre)) | (refine ⟨(k + 1, n), ⟨?_, by (try dsimp only); omega⟩, [], ⟨⟨rfl, rfl⟩, ⟨⟨rfl, rfl⟩, ⟨⟨rfl, rfl⟩, ⟨⟨rfl, rfl⟩, trivial⟩⟩⟩⟩, trivial, rfl, rfl, rfl⟩; (try dsimp only); exact ⟨by omega, by rw [hw, ← hn]⟩) | (refine And.intro (And.intro (by omega) (by omega)) ?_) | fail | fail)
      · rw [take_end hkl, ← hUl] at hn
        repeat' ((conv => whnf); first | (refine ⟨fun h => ?_, fun h => ?_⟩ <;> try (exfalso; first | omega | exact absurd h (by decide) | exact h rfl | exact absurd (show true = false from h) (by decide) | exact absurd (show false = true from h) (by decide))) | exact ⟨[], rfl, trivial, rfl⟩ | fail | fail)
  · repeat' ((conv => whnf); first | (refine ⟨fun h => ?_, fun h => ?_⟩ <;> try (exfalso; first | omega | exact absurd h (by decide) | exact h rfl | exact absurd (show true = false from h) (by decide) | exact absurd (show false = true from h) (by decide))) | (refine ⟨_, alive_h, (), trivial, leVs_of_eq rfl, .inl rfl, rfl, ?_⟩; show norm (B true) _) | (refine ⟨_, lright_h, l, hl0, leVs_of_eq rfl, .inl rfl, rfl, ?_⟩; show norm (B (decide (rightI l = 0))) _; rw [decide_eq_false h0]) | exact ⟨[], rfl, trivial, rfl⟩ | fail)
theorem law_h : Holds Try.prog 5 lawS := holds_of mix Try.func5 lawLow (fun _ => rfl) lawV

/-! ### THE ROW's STEP -/
theorem own : ownKnob Try.prog.godebug = none := by kernel_rfl
theorem laidOut : laidOutB Try.prog = true := by kernel_rfl
set_option maxRecDepth 100000 in
theorem lifted (os : Os) (started : os.Started) (H : Type) (enc : TypeId × Value → H) :
    ReturnsInHanded {} Try.checked os 5 .any (Rows.incidentUrgentSpec.pre6 enc Try.prog Try.f5 Rows.incidentUrgentRow.domain false) (Rows.incidentUrgentSpec.post enc Try.prog Try.f5 false true false false) := by
  refine returnsInHanded_of_change (C := Try.checked) own started (by kernel_rfl) Try.func5
    (ChangeSpec.witness6 (enc := enc) (C := Try.checked) false ⟨#[], #[.slice none 0 0], []⟩ 8 (by kernel_rfl) (by kernel_rfl) (by kernel_rfl) (by kernel_rfl)) ?_
  intro W base args ds gs before hval0 hW hcnd _
  have hval : ∀ (j : Nat) t v, Try.f5.params[j]? = some t → args[j]? = some v → Value.okWide Try.prog W .any base t v := hval0
  have hW' := hW
  obtain ⟨p, q, hA0, hV, rfl, hfz, hnd⟩ := hW
  have hA : DataW.TrodAll enc Try.prog W 0 (fun _ => true) true Try.f5.params.toList args.toList ds p := hA0
  rw [Try.params5] at hA hval
  obtain ⟨v0, vs0, d0, ds0, p0, q0, hargs, rfl, rfl, h0, r0⟩ := trodAll_cons hA
  obtain ⟨rfl, rfl, rfl⟩ := trodAll_nil r0
  obtain rfl : args = #[v0] := by cases args; simp_all
  obtain ⟨rfl, rfl⟩ := trodVars_none hV
  have lt0 : ∀ x ∈ p0, x.block < W.heap.size := by obtain ⟨m, hm⟩ := h0; exact DataW.trod_lt m _ _ _ hm
  obtain ⟨z0, w0, x0⟩ := openLI (hval 0 22 v0 rfl rfl) h0
  clear hA0 hval0
  refine Calls.mono (law_calls law_h z0 w0.1 rfl (vs := [v0]) (replist_mk x0 replist_mk0)) fun e W' ⟨he, bel⟩ => ?_
  subst he
  exact ⟨_, rfl, _, _, _, [], _, [], hW', trodAll_mk1 (shut_bool Try.underlying4 _), (trodAll_cons_mk (Below.trod laidOut (by kernel_rfl) (of_decide_eq_true (by kernel_rfl)) h0 bel lt0) trodAll_mk0), rfl, bel.frame _, fun h => by cases h⟩

theorem over : Rows.incidentUrgentRow.holds Try.pinned (OpenSpec.ofChange Rows.incidentUrgentSpec) :=
  OpenClaim.holds_of_wide 5 Try.f5 rfl rfl rfl rfl rfl rfl rfl ⟨rfl, rfl, rfl, rfl, rfl⟩ rfl rfl rfl rfl rfl (by kernel_rfl) Try.func5 (by kernel_rfl)
    (of_decide_eq_true (by kernel_rfl)) (by unfold Func.isWrapper; first | (rw [if_pos (by decide +kernel)]; kernel_rfl) | (rw [if_neg (by decide +kernel)]; exact ⟨rfl, rfl⟩))
    (fun os started H enc _ => lifted os started H enc)

theorem proved : Rows.IncidentUrgentSaid := over
end Go.Proofs.Ytoeichkblclfaaa.lawUrgent
