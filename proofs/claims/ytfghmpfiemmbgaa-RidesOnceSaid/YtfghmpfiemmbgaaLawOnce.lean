/- RidesOnce: a store has a ride once, and adding it is merging it. No condition. -/
import Derived.Test.YtfghmpfiemmbgaaG4
namespace Go.Proofs.Ytfghmpfiemmbgaa.lawOnce
open Go.ChangeShapes Go.WideShapes Go.ChangeAt Go.RowKit Go.Deep Go.Joins
set_option linter.unusedVariables false

/-! skiarea/skiarealaw31.RidesOnce -/
def lawIr : IFn := ⟨108, [.tmp 4],
  (.seq (.ops [
    ⟨(some 3), .box, [.tmp 1], none⟩,
    ⟨(some 4), .mov, [.const (.bool false)], none⟩] false)
  (.seq (.seq (.ops [
    ⟨(some 15), .call 11, [], none⟩,
    ⟨(some 16), .not, [.tmp 15], none⟩] false)
  (.cond (.tmp 16)
    (.seq (.ops [
      ⟨(some 4), .mov, [.const (.bool false)], none⟩] false)
    .ret)
    .skip))
  (.seq (.seq (.ops [
    ⟨(some 17), .mov, [.tmp 0], none⟩,
    ⟨(some 18), .call 14, [.tmp 17], none⟩,
    ⟨(some 19), .not, [.tmp 18], none⟩] false)
  (.cond (.tmp 19)
    (.seq (.ops [
      ⟨(some 4), .mov, [.const (.bool true)], none⟩] false)
    .ret)
    .skip))
  (.seq (.ops [
    ⟨(some 21), .mov, [.tmp 0], none⟩,
    ⟨(some 22), .load 7 true, [.tmp 3], none⟩,
    ⟨(some 23), .call 15, [.tmp 21, .tmp 22], none⟩,
    ⟨(some 20), .mov, [.tmp 23], none⟩,
    ⟨(some 24), .extract 0, [.tmp 20], none⟩,
    ⟨(some 25), .extract 1, [.tmp 20], none⟩,
    ⟨(some 26), .extract 2, [.tmp 20], none⟩,
    ⟨(some 5), .mov, [.tmp 24], none⟩,
    ⟨(some 6), .mov, [.tmp 25], none⟩,
    ⟨(some 7), .mov, [.tmp 26], none⟩] false)
  (.seq (.seq (.ops [
    ⟨(some 27), .load 7 true, [.tmp 3], none⟩,
    ⟨(some 28), .buildSl 28 7, [.tmp 27], none⟩,
    ⟨(some 29), .call 13, [.tmp 28], none⟩,
    ⟨(some 30), .cmp .neq, [.tmp 29, .const (.int .i64 0)], none⟩] false)
  (.cond (.tmp 30)
    (.seq (.ops [
      ⟨(some 31), .mov, [.tmp 7], none⟩,
      ⟨(some 32), .cmp .eql, [.tmp 31, .const (.int .i64 2)], none⟩,
      ⟨(some 33), .mov, [.tmp 32], none⟩,
      ⟨(some 34), .mov, [.tmp 6], (some (33, true))⟩,
      ⟨(some 35), .not, [.tmp 34], (some (33, true))⟩,
      ⟨(some 36), .pick, [.tmp 33, .tmp 35, .const (.bool false)], none⟩,
      ⟨(some 37), .mov, [.tmp 36], none⟩,
      ⟨(some 38), .mov, [.tmp 5], (some (37, true))⟩,
      ⟨(some 39), .len, [.tmp 38], (some (37, true))⟩,
      ⟨(some 40), .cmp .eql, [.tmp 39, .const (.int .i64 0)], (some (37, true))⟩,
      ⟨(some 41), .pick, [.tmp 37, .tmp 40, .const (.bool false)], none⟩,
      ⟨(some 4), .mov, [.tmp 41], none⟩] false)
    .ret)
    .skip))
  (.seq (.ops [
    ⟨(some 43), .mov, [.tmp 0], none⟩,
    ⟨(some 44), .load 7 true, [.tmp 3], none⟩,
    ⟨(some 45), .buildSl 28 7, [.tmp 44], none⟩,
    ⟨(some 46), .call 18, [.tmp 43, .tmp 45], none⟩,
    ⟨(some 42), .mov, [.tmp 46], none⟩,
    ⟨(some 47), .extract 0, [.tmp 42], none⟩,
    ⟨(some 48), .extract 1, [.tmp 42], none⟩,
    ⟨(some 8), .mov, [.tmp 47], none⟩,
    ⟨(some 9), .mov, [.tmp 48], none⟩] false)
  (.seq (.seq (.ops [
    ⟨(some 49), .mov, [.tmp 7], none⟩,
    ⟨(some 50), .mov, [.tmp 9], none⟩,
    ⟨(some 51), .cmp .neq, [.tmp 49, .tmp 50], none⟩,
    ⟨(some 52), .mov, [.tmp 51], none⟩,
    ⟨(some 53), .mov, [.tmp 5], (some (52, false))⟩,
    ⟨(some 54), .mov, [.tmp 8], (some (52, false))⟩,
    ⟨(some 55), .call 17, [.tmp 53, .tmp 54], (some (52, false))⟩,
    ⟨(some 56), .not, [.tmp 55], (some (52, false))⟩,
    ⟨(some 57), .pick, [.tmp 52, .const (.bool true), .tmp 56], none⟩] false)
  (.cond (.tmp 57)
    (.seq (.ops [
      ⟨(some 4), .mov, [.const (.bool false)], none⟩] false)
    .ret)
    .skip))
  (.seq (.seq (.ops [
    ⟨(some 58), .mov, [.tmp 7], none⟩,
    ⟨(some 59), .cmp .neq, [.tmp 58, .const (.int .i64 0)], none⟩] false)
  (.cond (.tmp 59)
    (.seq (.ops [
      ⟨(some 60), .mov, [.tmp 6], none⟩,
      ⟨(some 61), .not, [.tmp 60], none⟩,
      ⟨(some 4), .mov, [.tmp 61], none⟩] false)
    .ret)
    .skip))
  (.seq (.ops [
    ⟨(some 63), .mov, [.tmp 5], none⟩,
    ⟨(some 64), .load 7 true, [.tmp 3], none⟩,
    ⟨(some 65), .call 15, [.tmp 63, .tmp 64], none⟩,
    ⟨(some 62), .mov, [.tmp 65], none⟩,
    ⟨(some 66), .extract 0, [.tmp 62], none⟩,
    ⟨(some 67), .extract 1, [.tmp 62], none⟩,
    ⟨(some 68), .extract 2, [.tmp 62], none⟩,
    ⟨(some 10), .mov, [.tmp 66], none⟩,
    ⟨(some 11), .mov, [.tmp 67], none⟩,
    ⟨(some 12), .mov, [.tmp 68], none⟩] false)
  (.seq (.ops [
    ⟨(some 13), .mov, [.const (.int .i64 0)], none⟩] false)
  (.seq (.seq (.ops [
    ⟨(some 14), .mov, [.const (.int .i64 0)], none⟩] false)
  (.block 0
    (.loop
      (.seq (.seq (.ops [
        ⟨(some 69), .mov, [.tmp 14], none⟩,
        ⟨(some 70), .mov, [.tmp 5], none⟩,
        ⟨(some 71), .len, [.tmp 70], none⟩,
        ⟨(some 72), .cmp .lss, [.tmp 69, .tmp 71], none⟩] false)
      (.cond (.tmp 72)
        .skip
        (.exit 0)))
      (.seq (.block 1
        (.seq (.ops [
          ⟨(some 75), .mov, [.tmp 5], none⟩,
          ⟨(some 76), .mov, [.tmp 14], none⟩,
          ⟨(some 77), .idx 7, [.tmp 75, .tmp 76], none⟩,
          ⟨(some 78), .load 7 true, [.tmp 77], none⟩,
          ⟨(some 79), .load 7 true, [.tmp 3], none⟩,
          ⟨(some 80), .eqa [false, false, false, false, false, false, false] false, [.tmp 78, .tmp 79], none⟩] true)
        (.cond (.tmp 80)
          (.ops [
            ⟨(some 81), .mov, [.tmp 13], none⟩,
            ⟨(some 82), .bin .add .i64 false, [.tmp 81, .const (.int .i64 1)], none⟩,
            ⟨(some 13), .mov, [.tmp 82], none⟩] false)
          .skip)))
      (.ops [
        ⟨(some 73), .mov, [.tmp 14], none⟩,
        ⟨(some 74), .bin .add .i64 false, [.tmp 73, .const (.int .i64 1)], none⟩,
        ⟨(some 14), .mov, [.tmp 74], none⟩] false))))))
  (.seq (.ops [
    ⟨(some 83), .mov, [.tmp 13], none⟩,
    ⟨(some 84), .cmp .eql, [.tmp 83, .const (.int .i64 1)], none⟩,
    ⟨(some 85), .mov, [.tmp 84], none⟩,
    ⟨(some 86), .mov, [.tmp 6], (some (85, true))⟩,
    ⟨(some 87), .mov, [.tmp 5], (some (85, true))⟩,
    ⟨(some 88), .len, [.tmp 87], (some (85, true))⟩,
    ⟨(some 89), .mov, [.tmp 0], (some (85, true))⟩,
    ⟨(some 90), .len, [.tmp 89], (some (85, true))⟩,
    ⟨(some 91), .bin .add .i64 false, [.tmp 90, .const (.int .i64 1)], (some (85, true))⟩,
    ⟨(some 92), .cmp .eql, [.tmp 88, .tmp 91], (some (85, true))⟩,
    ⟨(some 93), .eqb false, [.tmp 86, .tmp 92], (some (85, true))⟩,
    ⟨(some 94), .pick, [.tmp 85, .tmp 93, .const (.bool false)], none⟩,
    ⟨(some 95), .mov, [.tmp 94], none⟩,
    ⟨(some 96), .mov, [.tmp 12], (some (95, true))⟩,
    ⟨(some 97), .cmp .eql, [.tmp 96, .const (.int .i64 0)], (some (95, true))⟩,
    ⟨(some 98), .pick, [.tmp 95, .tmp 97, .const (.bool false)], none⟩,
    ⟨(some 99), .mov, [.tmp 98], none⟩,
    ⟨(some 100), .mov, [.tmp 11], (some (99, true))⟩,
    ⟨(some 101), .not, [.tmp 100], (some (99, true))⟩,
    ⟨(some 102), .pick, [.tmp 99, .tmp 101, .const (.bool false)], none⟩,
    ⟨(some 103), .mov, [.tmp 102], none⟩,
    ⟨(some 104), .mov, [.tmp 5], (some (103, true))⟩,
    ⟨(some 105), .mov, [.tmp 10], (some (103, true))⟩,
    ⟨(some 106), .call 17, [.tmp 104, .tmp 105], (some (103, true))⟩,
    ⟨(some 107), .pick, [.tmp 103, .tmp 106, .const (.bool false)], none⟩,
    ⟨(some 4), .mov, [.tmp 107], none⟩] false)
  .ret))))))))))))⟩
theorem lawLow : lowF Try.prog {} Try.f8 = some lawIr := by kernel_rfl
def lawS : Spec := spec (List Ride × Ride) (fun p => [L 7 (p.1.map encR), aR p.2]) (fun _ => True) (fun _ => B true)
theorem lawV : fnV Try.prog lawIr lawS := by
  intro ⟨(l : List Ride), (r : Ride)⟩ hx
  by_cases hr : rightB l = true
  · obtain ⟨⟨h1, _⟩, lok, ls⟩ := rightB_ok hr
    have pl : l.length ≤ 3000 ∧ Sorted l := ⟨by omega, ls⟩
    by_cases hok : okR r
    · have pr : ([r] : List Ride).length ≤ 3000 ∧ Sorted [r] := ⟨by simp, by simp⟩
      have eR : right [r] = 0 := (right_one r).2 hok
      by_cases hc : conflict l [r]
      · have eAdd := addT_conflict hok ls hc
        have eM := mergeT_bad ls (by simp) hc
        repeat' ((conv => whnf); first | (refine ⟨fun h => ?_, fun h => ?_⟩ <;> try (exfalso; first | omega | exact absurd h (by decide) | exact h rfl | (simp at h; done) | (rw [hr] at h; exact absurd h (by decide)))) | refine ⟨_, alive_h, (), trivial, leVs_of_eq rfl, .inr rfl, rfl, ?_⟩ | refine ⟨_, lright_h, _, trivial, leVs_of_eq rfl, .inr rfl, rfl, ?_⟩ | (refine ⟨_, addW, (l, r), pl, ⟨by first | exact leV_refl _ | rfl, by first | exact leV_refl _ | rfl, trivial⟩, .inl rfl, rfl, ?_⟩; show norm (addT (l, r)) _; rw [eAdd]) | (refine ⟨_, refRight_h, ([r] : List Ride), trivial, ⟨leV_refl _, trivial⟩, .inl rfl, rfl, ?_⟩; show norm (I (right [r])) _; rw [eR]) | (refine ⟨_, mergeW, (l, ([r] : List Ride)), ⟨pl, pr⟩, ⟨by first | exact leV_refl _ | rfl, by first | exact leV_refl _ | rfl, trivial⟩, .inl rfl, rfl, ?_⟩; show norm (mergeT (l, ([r] : List Ride))) _; rw [eM]) | (refine ⟨_, same_h, (([] : List Ride), ([] : List Ride)), (by show (0 : Nat) ≤ _; decide), ⟨by first | exact leV_refl _ | rfl, by first | exact leV_refl _ | rfl, trivial⟩, .inl rfl, rfl, ?_⟩; show norm (B (decide (_ = _))) _; rw [decide_eq_true rfl]) | exact ⟨[], rfl, trivial, rfl⟩ | fail)
      · obtain ⟨m, hm⟩ := merge_exists ls (by simp) hc
        have l0 := hm.len ls (by simp)
        have l1 := hm.ge ls (by simp)
        have l2 : ([r] : List Ride).length = 1 := rfl
        have lm : m.length ≤ 9223372036854775807 := by omega
        have hlm : (m.map encR).length = m.length := List.length_map ..
        have hll : (l.map encR).length = l.length := List.length_map ..
        have eAdd := addT_ok hok ls hm (by omega)
        have eM := mergeT_ok ls (by simp) hm (by omega)
        have pm : m.length ≤ 3000 ∧ Sorted m := ⟨by omega, hm.1⟩
        have eAgain := addT_ok hok hm.1 (isMerge_again hm) (by omega)
        rw [decide_eq_false (Nat.lt_irrefl _)] at eAgain
        by_cases hlt : l.length < m.length
        · rw [decide_eq_true hlt] at eAdd
          repeat' ((conv => whnf); first | (refine ⟨fun h => ?_, fun h => ?_⟩ <;> try (exfalso; first | omega | exact absurd h (by decide) | exact h rfl | (simp at h; done) | (rw [hr] at h; exact absurd h (by decide)))) | refine ⟨_, alive_h, (), trivial, leVs_of_eq rfl, .inr rfl, rfl, ?_⟩ | refine ⟨_, lright_h, _, trivial, leVs_of_eq rfl, .inr rfl, rfl, ?_⟩ | (refine ⟨_, addW, (l, r), pl, ⟨by first | exact leV_refl _ | rfl, by first | exact leV_refl _ | rfl, trivial⟩, .inl rfl, rfl, ?_⟩; show norm (addT (l, r)) _; rw [eAdd]) | (refine ⟨_, refRight_h, ([r] : List Ride), trivial, ⟨leV_refl _, trivial⟩, .inl rfl, rfl, ?_⟩; show norm (I (right [r])) _; rw [eR]) | (refine ⟨_, mergeW, (l, ([r] : List Ride)), ⟨pl, pr⟩, ⟨by first | exact leV_refl _ | rfl, by first | exact leV_refl _ | rfl, trivial⟩, .inl rfl, rfl, ?_⟩; show norm (mergeT (l, ([r] : List Ride))) _; rw [eM]) | (refine ⟨_, same_h, (m, m), lm, ⟨by first | exact leV_refl _ | rfl, by first | exact leV_refl _ | rfl, trivial⟩, .inl rfl, rfl, ?_⟩; show norm (B (decide (_ = _))) _; rw [decide_eq_true rfl]) | (refine ⟨_, addW, (m, r), pm, ⟨by first | exact leV_refl _ | rfl, by first | exact leV_refl _ | rfl, trivial⟩, .inl rfl, rfl, ?_⟩; show norm (addT (m, r)) _; rw [eAgain]) | fail)
          conv => whnf
          refine ⟨Nat × Int, fun xq => ⟨[(0, L 7 (l.map encR)), (3, .bp 0 0), (5, L 7 (m.map encR)), (6, B true), (10, L 7 (m.map encR)), (11, B false), (12, I 0), (13, I xq.2), (14, I xq.1)], [(0, .box ((encR r).map .c))], 1⟩, fun xq => xq.1 ≤ m.length ∧ xq.2 = ((m.take xq.1).count r : Nat), fun xq => m.length - xq.1, ⟨(0, _), ?_, [], ⟨⟨rfl, rfl⟩, ⟨⟨rfl, rfl⟩, ⟨⟨rfl, rfl⟩, ⟨⟨rfl, rfl⟩, ⟨⟨rfl, rfl⟩, ⟨⟨rfl, rfl⟩, ⟨⟨rfl, rfl⟩, ⟨⟨rfl, rfl⟩, ⟨⟨rfl, rfl⟩, trivial⟩⟩⟩⟩⟩⟩⟩⟩⟩, ⟨⟨rfl, rfl, rfl⟩, trivial⟩, rfl, rfl⟩, ?_⟩
          · (try dsimp only); exact ⟨Nat.zero_le _, by simp⟩
          rintro ⟨k, n⟩ hk
          obtain ⟨hk, hn⟩ : k ≤ m.length ∧ n = ((m.take k).count r : Nat) := hk
          (try dsimp only)
          by_cases hkl : k < m.length
          · have hx : m[k]? = some m[k] := List.getElem?_eq_getElem hkl
            generalize m[k] = x at hx
            have hs := count_step (r := r) hx
            have hc : ((m.take k).count r) ≤ m.length := Nat.le_trans List.count_le_length (by simp; omega)
            repeat' ((conv => whnf); first | (refine ⟨(k + 1, n + 1), ⟨?_, by dsimp only; omega⟩, [], ⟨⟨rfl, rfl⟩, ⟨⟨rfl, rfl⟩, ⟨⟨rfl, rfl⟩, ⟨⟨rfl, rfl⟩, ⟨⟨rfl, rfl⟩, ⟨⟨rfl, rfl⟩, ⟨⟨rfl, rfl⟩, ⟨⟨rfl, rfl⟩, ⟨⟨rfl, rfl⟩, trivial⟩⟩⟩⟩⟩⟩⟩⟩⟩, ⟨⟨rfl, rfl, rfl⟩, trivial⟩, rfl, rfl⟩; (try dsimp only); exact ⟨by omega, by rw [if_pos (ride_ext h)] at hs; omega⟩) | (refine ⟨(k + 1, n), ⟨?_, by dsimp only; omega⟩, [], ⟨⟨rfl, rfl⟩, ⟨⟨rfl, rfl⟩, ⟨⟨rfl, rfl⟩, ⟨⟨rfl, rfl⟩, ⟨⟨rfl, rfl⟩, ⟨⟨rfl, rfl⟩, ⟨⟨rfl, rfl⟩, ⟨⟨rfl, rfl⟩, ⟨⟨rfl, rfl⟩, trivial⟩⟩⟩⟩⟩⟩⟩⟩⟩, ⟨⟨rfl, rfl, rfl⟩, trivial⟩, rfl, rfl⟩; (try dsimp only); exact ⟨by omega, by rw [if_neg (ride_ne h)] at hs; omega⟩) | (refine ⟨fun h => ?_, fun h => ?_⟩ <;> try (exfalso; omega)) | (refine ⟨by omega, fun r hr => ?_⟩; (obtain rfl := get_row hr hx)) | refine ⟨_, before_h, (_, _), trivial, leVs_of_eq rfl, .inr rfl, rfl, ?_⟩ | refine ⟨⟨by omega, by omega⟩, ?_⟩ | refine ⟨⟨by simp; omega, by simp; omega⟩, ?_⟩ | fail)
          · rw [List.take_of_length_le (by omega), count_one hm.1 (isMerge_mem hm)] at hn
            obtain rfl : n = 1 := hn
            repeat' ((conv => whnf); first | (refine ⟨fun h => ?_, fun h => ?_⟩ <;> try (exfalso; first | omega | exact absurd h (by decide) | exact h rfl | (simp at h; done) | exact absurd h (by omega))) | (refine ⟨_, same_h, (m, m), lm, ⟨by first | exact leV_refl _ | rfl, by first | exact leV_refl _ | rfl, trivial⟩, .inl rfl, rfl, ?_⟩; show norm (B (decide (_ = _))) _; rw [decide_eq_true rfl]) | refine ⟨⟨by omega, by omega⟩, ?_⟩ | exact ⟨[], rfl, trivial, rfl⟩ | fail)
        · rw [decide_eq_false hlt] at eAdd
          repeat' ((conv => whnf); first | (refine ⟨fun h => ?_, fun h => ?_⟩ <;> try (exfalso; first | omega | exact absurd h (by decide) | exact h rfl | (simp at h; done) | (rw [hr] at h; exact absurd h (by decide)))) | refine ⟨_, alive_h, (), trivial, leVs_of_eq rfl, .inr rfl, rfl, ?_⟩ | refine ⟨_, lright_h, _, trivial, leVs_of_eq rfl, .inr rfl, rfl, ?_⟩ | (refine ⟨_, addW, (l, r), pl, ⟨by first | exact leV_refl _ | rfl, by first | exact leV_refl _ | rfl, trivial⟩, .inl rfl, rfl, ?_⟩; show norm (addT (l, r)) _; rw [eAdd]) | (refine ⟨_, refRight_h, ([r] : List Ride), trivial, ⟨leV_refl _, trivial⟩, .inl rfl, rfl, ?_⟩; show norm (I (right [r])) _; rw [eR]) | (refine ⟨_, mergeW, (l, ([r] : List Ride)), ⟨pl, pr⟩, ⟨by first | exact leV_refl _ | rfl, by first | exact leV_refl _ | rfl, trivial⟩, .inl rfl, rfl, ?_⟩; show norm (mergeT (l, ([r] : List Ride))) _; rw [eM]) | (refine ⟨_, same_h, (m, m), lm, ⟨by first | exact leV_refl _ | rfl, by first | exact leV_refl _ | rfl, trivial⟩, .inl rfl, rfl, ?_⟩; show norm (B (decide (_ = _))) _; rw [decide_eq_true rfl]) | (refine ⟨_, addW, (m, r), pm, ⟨by first | exact leV_refl _ | rfl, by first | exact leV_refl _ | rfl, trivial⟩, .inl rfl, rfl, ?_⟩; show norm (addT (m, r)) _; rw [eAgain]) | fail)
          conv => whnf
          refine ⟨Nat × Int, fun xq => ⟨[(0, L 7 (l.map encR)), (3, .bp 0 0), (5, L 7 (m.map encR)), (6, B false), (10, L 7 (m.map encR)), (11, B false), (12, I 0), (13, I xq.2), (14, I xq.1)], [(0, .box ((encR r).map .c))], 1⟩, fun xq => xq.1 ≤ m.length ∧ xq.2 = ((m.take xq.1).count r : Nat), fun xq => m.length - xq.1, ⟨(0, _), ?_, [], ⟨⟨rfl, rfl⟩, ⟨⟨rfl, rfl⟩, ⟨⟨rfl, rfl⟩, ⟨⟨rfl, rfl⟩, ⟨⟨rfl, rfl⟩, ⟨⟨rfl, rfl⟩, ⟨⟨rfl, rfl⟩, ⟨⟨rfl, rfl⟩, ⟨⟨rfl, rfl⟩, trivial⟩⟩⟩⟩⟩⟩⟩⟩⟩, ⟨⟨rfl, rfl, rfl⟩, trivial⟩, rfl, rfl⟩, ?_⟩
          · (try dsimp only); exact ⟨Nat.zero_le _, by simp⟩
          rintro ⟨k, n⟩ hk
          obtain ⟨hk, hn⟩ : k ≤ m.length ∧ n = ((m.take k).count r : Nat) := hk
          (try dsimp only)
          by_cases hkl : k < m.length
          · have hx : m[k]? = some m[k] := List.getElem?_eq_getElem hkl
            generalize m[k] = x at hx
            have hs := count_step (r := r) hx
            have hc : ((m.take k).count r) ≤ m.length := Nat.le_trans List.count_le_length (by simp; omega)
            repeat' ((conv => whnf); first | (refine ⟨(k + 1, n + 1), ⟨?_, by dsimp only; omega⟩, [], ⟨⟨rfl, rfl⟩, ⟨⟨rfl, rfl⟩, ⟨⟨rfl, rfl⟩, ⟨⟨rfl, rfl⟩, ⟨⟨rfl, rfl⟩, ⟨⟨rfl, rfl⟩, ⟨⟨rfl, rfl⟩, ⟨⟨rfl, rfl⟩, ⟨⟨rfl, rfl⟩, trivial⟩⟩⟩⟩⟩⟩⟩⟩⟩, ⟨⟨rfl, rfl, rfl⟩, trivial⟩, rfl, rfl⟩; (try dsimp only); exact ⟨by omega, by rw [if_pos (ride_ext h)] at hs; omega⟩) | (refine ⟨(k + 1, n), ⟨?_, by dsimp only; omega⟩, [], ⟨⟨rfl, rfl⟩, ⟨⟨rfl, rfl⟩, ⟨⟨rfl, rfl⟩, ⟨⟨rfl, rfl⟩, ⟨⟨rfl, rfl⟩, ⟨⟨rfl, rfl⟩, ⟨⟨rfl, rfl⟩, ⟨⟨rfl, rfl⟩, ⟨⟨rfl, rfl⟩, trivial⟩⟩⟩⟩⟩⟩⟩⟩⟩, ⟨⟨rfl, rfl, rfl⟩, trivial⟩, rfl, rfl⟩; (try dsimp only); exact ⟨by omega, by rw [if_neg (ride_ne h)] at hs; omega⟩) | (refine ⟨fun h => ?_, fun h => ?_⟩ <;> try (exfalso; omega)) | (refine ⟨by omega, fun r hr => ?_⟩; (obtain rfl := get_row hr hx)) | refine ⟨_, before_h, (_, _), trivial, leVs_of_eq rfl, .inr rfl, rfl, ?_⟩ | refine ⟨⟨by omega, by omega⟩, ?_⟩ | refine ⟨⟨by simp; omega, by simp; omega⟩, ?_⟩ | fail)
          · rw [List.take_of_length_le (by omega), count_one hm.1 (isMerge_mem hm)] at hn
            obtain rfl : n = 1 := hn
            repeat' ((conv => whnf); first | (refine ⟨fun h => ?_, fun h => ?_⟩ <;> try (exfalso; first | omega | exact absurd h (by decide) | exact h rfl | (simp at h; done) | exact absurd h (by omega))) | (refine ⟨_, same_h, (m, m), lm, ⟨by first | exact leV_refl _ | rfl, by first | exact leV_refl _ | rfl, trivial⟩, .inl rfl, rfl, ?_⟩; show norm (B (decide (_ = _))) _; rw [decide_eq_true rfl]) | refine ⟨⟨by omega, by omega⟩, ?_⟩ | exact ⟨[], rfl, trivial, rfl⟩ | fail)
    · have eR := right_one_bad hok
      have eAdd := addT_bad (s := l) hok
      repeat' ((conv => whnf); first | (refine ⟨fun h => ?_, fun h => ?_⟩ <;> try (exfalso; first | omega | exact absurd h (by decide) | exact h rfl | (simp at h; done) | (rw [hr] at h; exact absurd h (by decide)))) | refine ⟨_, alive_h, (), trivial, leVs_of_eq rfl, .inr rfl, rfl, ?_⟩ | refine ⟨_, lright_h, _, trivial, leVs_of_eq rfl, .inr rfl, rfl, ?_⟩ | (refine ⟨_, addW, (l, r), pl, ⟨by first | exact leV_refl _ | rfl, by first | exact leV_refl _ | rfl, trivial⟩, .inl rfl, rfl, ?_⟩; show norm (addT (l, r)) _; rw [eAdd]) | (refine ⟨_, refRight_h, ([r] : List Ride), trivial, ⟨leV_refl _, trivial⟩, .inl rfl, rfl, ?_⟩; show norm (I (right [r])) _; rw [eR]) | exact ⟨[], rfl, trivial, rfl⟩ | fail)
  · repeat' ((conv => whnf); first | (refine ⟨fun h => ?_, fun h => ?_⟩ <;> try (exfalso; first | omega | exact absurd h (by decide) | exact h rfl | (simp at h; done) | (exact hr h))) | refine ⟨_, alive_h, (), trivial, leVs_of_eq rfl, .inr rfl, rfl, ?_⟩ | refine ⟨_, lright_h, _, trivial, leVs_of_eq rfl, .inr rfl, rfl, ?_⟩ | exact ⟨[], rfl, trivial, rfl⟩ | fail)
theorem law_h : Holds Try.prog 8 lawS := holds_of mix Try.func8 lawLow (fun _ => rfl) lawV

/-! ### THE ROW's STEP -/
theorem own : ownKnob Try.prog.godebug = none := by kernel_rfl
theorem laidOut : laidOutB Try.prog = true := by kernel_rfl
set_option maxRecDepth 100000 in
theorem lifted (os : Os) (started : os.Started) (H : Type) (enc : TypeId × Value → H) :
    ReturnsInHanded {} Try.checked os 8 .any (Rows.ridesOnceSpec.pre6 enc Try.prog Try.f8 Rows.ridesOnceRow.domain false) (Rows.ridesOnceSpec.post enc Try.prog Try.f8 false true false false) := by
  refine returnsInHanded_of_change (C := Try.checked) own started (by kernel_rfl) Try.func8
    (ChangeSpec.witness6 (enc := enc) (C := Try.checked) false ⟨#[], #[.slice none 0 0, .agg #[.int .i64 0, .int .i64 0, .int .i64 0, .int .i64 0, .int .i64 0, .int .i64 0, .int .i64 0]], []⟩ 8 (by kernel_rfl) (by kernel_rfl) (by kernel_rfl) (by kernel_rfl)) ?_
  intro W base args ds gs before hval0 hW hcnd _
  have hval : ∀ (j : Nat) t v, Try.f8.params[j]? = some t → args[j]? = some v → Value.okWide Try.prog W .any base t v := hval0
  have hW' := hW
  obtain ⟨p, q, hA0, hV, rfl, hfz, hnd⟩ := hW
  have hA : DataW.TrodAll enc Try.prog W 0 (fun _ => true) true Try.f8.params.toList args.toList ds p := hA0
  rw [Try.params8] at hA hval
  obtain ⟨v0, vs0, d0, ds0, p0, q0, hargs, rfl, rfl, h0, r0⟩ := trodAll_cons hA
  obtain ⟨v1, vs1, d1, ds1, p1, q1, rfl, rfl, rfl, h1, r1⟩ := trodAll_cons r0
  obtain ⟨rfl, rfl, rfl⟩ := trodAll_nil r1
  obtain rfl : args = #[v0, v1] := by cases args; simp_all
  obtain ⟨rfl, rfl⟩ := trodVars_none hV
  have lt0 : ∀ x ∈ p0, x.block < W.heap.size := by obtain ⟨m, hm⟩ := h0; exact DataW.trod_lt m _ _ _ hm
  obtain ⟨z0, w0, x0⟩ := openRides (hval 0 22 v0 rfl rfl) h0
  have lt1 : ∀ x ∈ p1, x.block < W.heap.size := by obtain ⟨m, hm⟩ := h1; exact DataW.trod_lt m _ _ _ hm
  obtain ⟨z1, w1, x1⟩ := openRide (hval 1 28 v1 rfl rfl) h1
  clear hA0 hval0
  refine Calls.mono (law_calls law_h (z0, z1) trivial rfl (vs := [v0, v1]) (replist_mk x0 (replist_mk x1 replist_mk0))) fun e W' ⟨he, bel⟩ => ?_
  subst he
  exact ⟨_, rfl, _, _, _, [], _, [], hW', trodAll_mk1 (shut_bool Try.underlying4 _), (trodAll_cons_mk (Below.trod laidOut (by kernel_rfl) (of_decide_eq_true (by kernel_rfl)) h0 bel lt0) (trodAll_cons_mk (Below.trod laidOut (by kernel_rfl) (of_decide_eq_true (by kernel_rfl)) h1 bel lt1) trodAll_mk0)), rfl, bel.frame _, fun h => by cases h⟩

theorem over : Rows.ridesOnceRow.holds Try.pinned (OpenSpec.ofChange Rows.ridesOnceSpec) :=
  OpenClaim.holds_of_wide 8 Try.f8 rfl rfl rfl rfl rfl rfl rfl ⟨rfl, rfl, rfl, rfl, rfl⟩ rfl rfl rfl rfl rfl (by kernel_rfl) Try.func8 (by kernel_rfl)
    (of_decide_eq_true (by kernel_rfl)) (by unfold Func.isWrapper; first | (rw [if_pos (by decide +kernel)]; kernel_rfl) | (rw [if_neg (by decide +kernel)]; exact ⟨rfl, rfl⟩))
    (fun os started H enc _ => lifted os started H enc)

theorem proved : Rows.RidesOnceSaid := over
end Go.Proofs.Ytfghmpfiemmbgaa.lawOnce
