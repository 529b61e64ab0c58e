/- RidesMerge: merging stores is commutative, associative and idempotent. No condition. -/
import Derived.Test.YtfghmpfiemmbgaaG3
namespace Go.Proofs.Ytfghmpfiemmbgaa.lawMerge
open Go.ChangeShapes Go.WideShapes Go.ChangeAt Go.RowKit Go.Deep Go.Joins
set_option linter.unusedVariables false

/-! skiarea/skiarealaw31.RidesMerge -/
def lawIr : IFn := ⟨136, [.tmp 6],
  (.seq (.ops [
    ⟨(some 6), .mov, [.const (.bool false)], none⟩] false)
  (.seq (.seq (.ops [
    ⟨(some 21), .call 11, [], none⟩,
    ⟨(some 22), .not, [.tmp 21], none⟩] false)
  (.cond (.tmp 22)
    (.seq (.ops [
      ⟨(some 6), .mov, [.const (.bool false)], none⟩] false)
    .ret)
    .skip))
  (.seq (.seq (.ops [
    ⟨(some 23), .mov, [.tmp 0], none⟩,
    ⟨(some 24), .call 14, [.tmp 23], none⟩,
    ⟨(some 25), .not, [.tmp 24], none⟩,
    ⟨(some 26), .mov, [.tmp 25], none⟩,
    ⟨(some 27), .mov, [.tmp 1], (some (26, false))⟩,
    ⟨(some 28), .call 14, [.tmp 27], (some (26, false))⟩,
    ⟨(some 29), .not, [.tmp 28], (some (26, false))⟩,
    ⟨(some 30), .pick, [.tmp 26, .const (.bool true), .tmp 29], none⟩,
    ⟨(some 31), .mov, [.tmp 30], none⟩,
    ⟨(some 32), .mov, [.tmp 2], (some (31, false))⟩,
    ⟨(some 33), .call 14, [.tmp 32], (some (31, false))⟩,
    ⟨(some 34), .not, [.tmp 33], (some (31, false))⟩,
    ⟨(some 35), .pick, [.tmp 31, .const (.bool true), .tmp 34], none⟩] false)
  (.cond (.tmp 35)
    (.seq (.ops [
      ⟨(some 6), .mov, [.const (.bool true)], none⟩] false)
    .ret)
    .skip))
  (.seq (.ops [
    ⟨(some 37), .mov, [.tmp 0], none⟩,
    ⟨(some 38), .mov, [.tmp 1], none⟩,
    ⟨(some 39), .call 18, [.tmp 37, .tmp 38], none⟩,
    ⟨(some 36), .mov, [.tmp 39], none⟩,
    ⟨(some 40), .extract 0, [.tmp 36], none⟩,
    ⟨(some 41), .extract 1, [.tmp 36], none⟩,
    ⟨(some 7), .mov, [.tmp 40], none⟩,
    ⟨(some 8), .mov, [.tmp 41], none⟩] false)
  (.seq (.ops [
    ⟨(some 43), .mov, [.tmp 1], none⟩,
    ⟨(some 44), .mov, [.tmp 0], none⟩,
    ⟨(some 45), .call 18, [.tmp 43, .tmp 44], none⟩,
    ⟨(some 42), .mov, [.tmp 45], none⟩,
    ⟨(some 46), .extract 0, [.tmp 42], none⟩,
    ⟨(some 47), .extract 1, [.tmp 42], none⟩,
    ⟨(some 9), .mov, [.tmp 46], none⟩,
    ⟨(some 10), .mov, [.tmp 47], none⟩] false)
  (.seq (.ops [
    ⟨(some 49), .mov, [.tmp 0], none⟩,
    ⟨(some 50), .mov, [.tmp 0], none⟩,
    ⟨(some 51), .call 18, [.tmp 49, .tmp 50], none⟩,
    ⟨(some 48), .mov, [.tmp 51], none⟩,
    ⟨(some 52), .extract 0, [.tmp 48], none⟩,
    ⟨(some 53), .extract 1, [.tmp 48], none⟩,
    ⟨(some 11), .mov, [.tmp 52], none⟩,
    ⟨(some 12), .mov, [.tmp 53], none⟩] false)
  (.seq (.ops [
    ⟨(some 55), .mov, [.tmp 0], none⟩,
    ⟨(some 56), .call 18, [.tmp 55, .const (.slice none 0 0)], none⟩,
    ⟨(some 54), .mov, [.tmp 56], none⟩,
    ⟨(some 57), .extract 0, [.tmp 54], none⟩,
    ⟨(some 58), .extract 1, [.tmp 54], none⟩,
    ⟨(some 13), .mov, [.tmp 57], none⟩,
    ⟨(some 14), .mov, [.tmp 58], none⟩] false)
  (.seq (.seq (.ops [
    ⟨(some 59), .mov, [.tmp 8], none⟩,
    ⟨(some 60), .mov, [.tmp 10], none⟩,
    ⟨(some 61), .cmp .neq, [.tmp 59, .tmp 60], none⟩,
    ⟨(some 62), .mov, [.tmp 61], none⟩,
    ⟨(some 63), .mov, [.tmp 7], (some (62, false))⟩,
    ⟨(some 64), .mov, [.tmp 9], (some (62, false))⟩,
    ⟨(some 65), .call 17, [.tmp 63, .tmp 64], (some (62, false))⟩,
    ⟨(some 66), .not, [.tmp 65], (some (62, false))⟩,
    ⟨(some 67), .pick, [.tmp 62, .const (.bool true), .tmp 66], none⟩,
    ⟨(some 68), .mov, [.tmp 67], none⟩,
    ⟨(some 69), .mov, [.tmp 12], (some (68, false))⟩,
    ⟨(some 70), .cmp .neq, [.tmp 69, .const (.int .i64 0)], (some (68, false))⟩,
    ⟨(some 71), .pick, [.tmp 68, .const (.bool true), .tmp 70], none⟩,
    ⟨(some 72), .mov, [.tmp 71], none⟩,
    ⟨(some 73), .mov, [.tmp 11], (some (72, false))⟩,
    ⟨(some 74), .mov, [.tmp 0], (some (72, false))⟩,
    ⟨(some 75), .call 17, [.tmp 73, .tmp 74], (some (72, false))⟩,
    ⟨(some 76), .not, [.tmp 75], (some (72, false))⟩,
    ⟨(some 77), .pick, [.tmp 72, .const (.bool true), .tmp 76], none⟩,
    ⟨(some 78), .mov, [.tmp 77], none⟩,
    ⟨(some 79), .mov, [.tmp 14], (some (78, false))⟩,
    ⟨(some 80), .cmp .neq, [.tmp 79, .const (.int .i64 0)], (some (78, false))⟩,
    ⟨(some 81), .pick, [.tmp 78, .const (.bool true), .tmp 80], none⟩,
    ⟨(some 82), .mov, [.tmp 81], none⟩,
    ⟨(some 83), .mov, [.tmp 13], (some (82, false))⟩,
    ⟨(some 84), .mov, [.tmp 0], (some (82, false))⟩,
    ⟨(some 85), .call 17, [.tmp 83, .tmp 84], (some (82, false))⟩,
    ⟨(some 86), .not, [.tmp 85], (some (82, false))⟩,
    ⟨(some 87), .pick, [.tmp 82, .const (.bool true), .tmp 86], none⟩] false)
  (.cond (.tmp 87)
    (.seq (.ops [
      ⟨(some 6), .mov, [.const (.bool false)], none⟩] false)
    .ret)
    .skip))
  (.seq (.ops [
    ⟨(some 89), .mov, [.tmp 1], none⟩,
    ⟨(some 90), .mov, [.tmp 2], none⟩,
    ⟨(some 91), .call 18, [.tmp 89, .tmp 90], none⟩,
    ⟨(some 88), .mov, [.tmp 91], none⟩,
    ⟨(some 92), .extract 0, [.tmp 88], none⟩,
    ⟨(some 93), .extract 1, [.tmp 88], none⟩,
    ⟨(some 15), .mov, [.tmp 92], none⟩,
    ⟨(some 16), .mov, [.tmp 93], none⟩] false)
  (.seq (.ops [
    ⟨(some 17), .mov, [.const (.int .i64 15)], none⟩,
    ⟨(some 18), .mov, [.const (.int .i64 15)], none⟩] false)
  (.seq (.ops [
    ⟨(some 19), .mov, [.const (.slice none 0 0)], none⟩,
    ⟨(some 20), .mov, [.const (.slice none 0 0)], none⟩] false)
  (.seq (.seq (.ops [
    ⟨(some 94), .mov, [.tmp 8], none⟩,
    ⟨(some 95), .cmp .eql, [.tmp 94, .const (.int .i64 0)], none⟩] false)
  (.cond (.tmp 95)
    (.ops [
      ⟨(some 97), .mov, [.tmp 7], none⟩,
      ⟨(some 98), .mov, [.tmp 2], none⟩,
      ⟨(some 99), .call 18, [.tmp 97, .tmp 98], none⟩,
      ⟨(some 96), .mov, [.tmp 99], none⟩,
      ⟨(some 100), .extract 0, [.tmp 96], none⟩,
      ⟨(some 101), .extract 1, [.tmp 96], none⟩,
      ⟨(some 19), .mov, [.tmp 100], none⟩,
      ⟨(some 17), .mov, [.tmp 101], none⟩] false)
    .skip))
  (.seq (.seq (.ops [
    ⟨(some 102), .mov, [.tmp 16], none⟩,
    ⟨(some 103), .cmp .eql, [.tmp 102, .const (.int .i64 0)], none⟩] false)
  (.cond (.tmp 103)
    (.ops [
      ⟨(some 105), .mov, [.tmp 0], none⟩,
      ⟨(some 106), .mov, [.tmp 15], none⟩,
      ⟨(some 107), .call 18, [.tmp 105, .tmp 106], none⟩,
      ⟨(some 104), .mov, [.tmp 107], none⟩,
      ⟨(some 108), .extract 0, [.tmp 104], none⟩,
      ⟨(some 109), .extract 1, [.tmp 104], none⟩,
      ⟨(some 20), .mov, [.tmp 108], none⟩,
      ⟨(some 18), .mov, [.tmp 109], none⟩] false)
    .skip))
  (.seq (.ops [
    ⟨(some 110), .mov, [.tmp 17], none⟩,
    ⟨(some 111), .mov, [.tmp 18], none⟩,
    ⟨(some 112), .cmp .eql, [.tmp 110, .tmp 111], none⟩,
    ⟨(some 113), .mov, [.tmp 112], none⟩,
    ⟨(some 114), .mov, [.tmp 19], (some (113, true))⟩,
    ⟨(some 115), .mov, [.tmp 20], (some (113, true))⟩,
    ⟨(some 116), .call 17, [.tmp 114, .tmp 115], (some (113, true))⟩,
    ⟨(some 117), .pick, [.tmp 113, .tmp 116, .const (.bool false)], none⟩,
    ⟨(some 118), .mov, [.tmp 117], none⟩,
    ⟨(some 119), .mov, [.tmp 8], (some (118, true))⟩,
    ⟨(some 120), .cmp .eql, [.tmp 119, .const (.int .i64 0)], (some (118, true))⟩,
    ⟨(some 121), .mov, [.tmp 120], (some (118, true))⟩,
    ⟨(some 122), .mov, [.tmp 7], (some (121, false))⟩,
    ⟨(some 123), .len, [.tmp 122], (some (121, false))⟩,
    ⟨(some 124), .cmp .eql, [.tmp 123, .const (.int .i64 0)], (some (121, false))⟩,
    ⟨(some 125), .pick, [.tmp 121, .const (.bool true), .tmp 124], (some (118, true))⟩,
    ⟨(some 126), .pick, [.tmp 118, .tmp 125, .const (.bool false)], none⟩,
    ⟨(some 127), .mov, [.tmp 126], none⟩,
    ⟨(some 128), .mov, [.tmp 17], (some (127, true))⟩,
    ⟨(some 129), .cmp .neq, [.tmp 128, .const (.int .i64 0)], (some (127, true))⟩,
    ⟨(some 130), .mov, [.tmp 129], (some (127, true))⟩,
    ⟨(some 131), .mov, [.tmp 19], (some (130, false))⟩,
    ⟨(some 132), .call 12, [.tmp 131], (some (130, false))⟩,
    ⟨(some 133), .cmp .eql, [.tmp 132, .const (.int .i64 0)], (some (130, false))⟩,
    ⟨(some 134), .pick, [.tmp 130, .const (.bool true), .tmp 133], (some (127, true))⟩,
    ⟨(some 135), .pick, [.tmp 127, .tmp 134, .const (.bool false)], none⟩,
    ⟨(some 6), .mov, [.tmp 135], none⟩] false)
  .ret))))))))))))))⟩
theorem lawLow : lowF Try.prog {} Try.f7 = some lawIr := by kernel_rfl
def lawS : Spec := spec (List Ride × List Ride × List Ride) (fun p => [L 7 (p.1.map encR), L 7 (p.2.1.map encR), L 7 (p.2.2.map encR)]) (fun _ => True) (fun _ => B true)
theorem lawV : fnV Try.prog lawIr lawS := by
  intro ⟨(a : List Ride), (b : List Ride), (c : List Ride)⟩ hx
  by_cases hr : rightB a = true
  · by_cases hq : rightB b = true
    · by_cases hp : rightB c = true
      · obtain ⟨⟨a1, _⟩, aok, sa⟩ := rightB_ok hr
        obtain ⟨⟨b1, _⟩, bok, bs⟩ := rightB_ok hq
        obtain ⟨⟨c1, _⟩, cok, cs⟩ := rightB_ok hp
        have pa : a.length ≤ 3000 ∧ Sorted a := ⟨by omega, sa⟩
        have pb : b.length ≤ 3000 ∧ Sorted b := ⟨by omega, bs⟩
        have pc : c.length ≤ 3000 ∧ Sorted c := ⟨by omega, cs⟩
        have pn : ([] : List Ride).length ≤ 3000 ∧ Sorted [] := ⟨by simp, .nil⟩
        have la : a.length ≤ 9223372036854775807 := by omega
        have eAA := mergeT_ok sa sa (isMerge_self sa) (by omega)
        have eAN := mergeT_ok sa .nil (isMerge_nil sa) (by omega)
        by_cases cab : conflict a b
        · have eAB := mergeT_bad sa bs cab
          have eBA := mergeT_bad bs sa (conflict_swap cab)
          by_cases cbc : conflict b c
          · have eBC := mergeT_bad bs cs cbc
            repeat' ((conv => whnf); first | (refine ⟨fun h => ?_, fun h => ?_⟩ <;> try (exfalso; first | omega | exact absurd h (by decide) | exact h rfl | (simp at h; done) | (rw [hr] at h; exact absurd h (by decide)) | (rw [hq] at h; exact absurd h (by decide)) | (rw [hp] at h; exact absurd h (by decide)))) | refine ⟨_, alive_h, (), trivial, leVs_of_eq rfl, .inr rfl, rfl, ?_⟩ | refine ⟨_, lright_h, _, trivial, leVs_of_eq rfl, .inr rfl, rfl, ?_⟩ | (refine ⟨_, mergeW, (a, b), ⟨pa, pb⟩, ⟨by first | exact leV_refl _ | rfl, by first | exact leV_refl _ | rfl, trivial⟩, .inl rfl, rfl, ?_⟩; show norm (mergeT (a, b)) _; rw [eAB]) | (refine ⟨_, mergeW, (b, a), ⟨pb, pa⟩, ⟨by first | exact leV_refl _ | rfl, by first | exact leV_refl _ | rfl, trivial⟩, .inl rfl, rfl, ?_⟩; show norm (mergeT (b, a)) _; rw [eBA]) | (refine ⟨_, mergeW, (a, a), ⟨pa, pa⟩, ⟨by first | exact leV_refl _ | rfl, by first | exact leV_refl _ | rfl, trivial⟩, .inl rfl, rfl, ?_⟩; show norm (mergeT (a, a)) _; rw [eAA]) | (refine ⟨_, mergeW, (a, ([] : List Ride)), ⟨pa, pn⟩, ⟨by first | exact leV_refl _ | rfl, by first | exact leV_refl _ | rfl, trivial⟩, .inl rfl, rfl, ?_⟩; show norm (mergeT (a, ([] : List Ride))) _; rw [eAN]) | (refine ⟨_, mergeW, (b, c), ⟨pb, pc⟩, ⟨by first | exact leV_refl _ | rfl, by first | exact leV_refl _ | rfl, trivial⟩, .inl rfl, rfl, ?_⟩; show norm (mergeT (b, c)) _; rw [eBC]) | (refine ⟨_, same_h, (a, a), la, ⟨by first | exact leV_refl _ | rfl, by first | exact leV_refl _ | rfl, trivial⟩, .inl rfl, rfl, ?_⟩; show norm (B (decide (_ = _))) _; rw [decide_eq_true rfl]) | (refine ⟨_, same_h, (([] : List Ride), ([] : List Ride)), (by show (0 : Nat) ≤ _; decide), ⟨by first | exact leV_refl _ | rfl, by first | exact leV_refl _ | rfl, trivial⟩, .inl rfl, rfl, ?_⟩; show norm (B (decide (_ = _))) _; rw [decide_eq_true rfl]) | exact ⟨[], rfl, trivial, rfl⟩ | fail)
          · obtain ⟨n, hn⟩ := merge_exists bs cs cbc
            have ln := hn.len bs cs
            have eBC := mergeT_ok bs cs hn (by omega)
            have pn' : n.length ≤ 3000 ∧ Sorted n := ⟨by omega, hn.1⟩
            have eAn := mergeT_bad sa hn.1 ((conflict_merge' hn).2 (.inl cab))
            repeat' ((conv => whnf); first | (refine ⟨fun h => ?_, fun h => ?_⟩ <;> try (exfalso; first | omega | exact absurd h (by decide) | exact h rfl | (simp at h; done) | (rw [hr] at h; exact absurd h (by decide)) | (rw [hq] at h; exact absurd h (by decide)) | (rw [hp] at h; exact absurd h (by decide)))) | refine ⟨_, alive_h, (), trivial, leVs_of_eq rfl, .inr rfl, rfl, ?_⟩ | refine ⟨_, lright_h, _, trivial, leVs_of_eq rfl, .inr rfl, rfl, ?_⟩ | (refine ⟨_, mergeW, (a, b), ⟨pa, pb⟩, ⟨by first | exact leV_refl _ | rfl, by first | exact leV_refl _ | rfl, trivial⟩, .inl rfl, rfl, ?_⟩; show norm (mergeT (a, b)) _; rw [eAB]) | (refine ⟨_, mergeW, (b, a), ⟨pb, pa⟩, ⟨by first | exact leV_refl _ | rfl, by first | exact leV_refl _ | rfl, trivial⟩, .inl rfl, rfl, ?_⟩; show norm (mergeT (b, a)) _; rw [eBA]) | (refine ⟨_, mergeW, (a, a), ⟨pa, pa⟩, ⟨by first | exact leV_refl _ | rfl, by first | exact leV_refl _ | rfl, trivial⟩, .inl rfl, rfl, ?_⟩; show norm (mergeT (a, a)) _; rw [eAA]) | (refine ⟨_, mergeW, (a, ([] : List Ride)), ⟨pa, pn⟩, ⟨by first | exact leV_refl _ | rfl, by first | exact leV_refl _ | rfl, trivial⟩, .inl rfl, rfl, ?_⟩; show norm (mergeT (a, ([] : List Ride))) _; rw [eAN]) | (refine ⟨_, mergeW, (b, c), ⟨pb, pc⟩, ⟨by first | exact leV_refl _ | rfl, by first | exact leV_refl _ | rfl, trivial⟩, .inl rfl, rfl, ?_⟩; show norm (mergeT (b, c)) _; rw [eBC]) | (refine ⟨_, same_h, (a, a), la, ⟨by first | exact leV_refl _ | rfl, by first | exact leV_refl _ | rfl, trivial⟩, .inl rfl, rfl, ?_⟩; show norm (B (decide (_ = _))) _; rw [decide_eq_true rfl]) | (refine ⟨_, same_h, (([] : List Ride), ([] : List Ride)), (by show (0 : Nat) ≤ _; decide), ⟨by first | exact leV_refl _ | rfl, by first | exact leV_refl _ | rfl, trivial⟩, .inl rfl, rfl, ?_⟩; show norm (B (decide (_ = _))) _; rw [decide_eq_true rfl]) | (refine ⟨_, mergeW, (a, n), ⟨pa, pn'⟩, ⟨by first | exact leV_refl _ | rfl, by first | exact leV_refl _ | rfl, trivial⟩, .inl rfl, rfl, ?_⟩; show norm (mergeT (a, n)) _; rw [eAn]) | exact ⟨[], rfl, trivial, rfl⟩ | fail)
        · obtain ⟨m, hm⟩ := merge_exists sa bs cab
          have lm0 := hm.len sa bs
          have lm : m.length ≤ 9223372036854775807 := by omega
          have eAB := mergeT_ok sa bs hm (by omega)
          have eBA := mergeT_ok bs sa (isMerge_swap hm) (by omega)
          have pm : m.length ≤ 3000 ∧ Sorted m := ⟨by omega, hm.1⟩
          by_cases cbc : conflict b c
          · have eBC := mergeT_bad bs cs cbc
            have eMc := mergeT_bad hm.1 cs ((conflict_merge hm).2 (.inr cbc))
            repeat' ((conv => whnf); first | (refine ⟨fun h => ?_, fun h => ?_⟩ <;> try (exfalso; first | omega | exact absurd h (by decide) | exact h rfl | (simp at h; done) | (rw [hr] at h; exact absurd h (by decide)) | (rw [hq] at h; exact absurd h (by decide)) | (rw [hp] at h; exact absurd h (by decide)))) | refine ⟨_, alive_h, (), trivial, leVs_of_eq rfl, .inr rfl, rfl, ?_⟩ | refine ⟨_, lright_h, _, trivial, leVs_of_eq rfl, .inr rfl, rfl, ?_⟩ | (refine ⟨_, mergeW, (a, b), ⟨pa, pb⟩, ⟨by first | exact leV_refl _ | rfl, by first | exact leV_refl _ | rfl, trivial⟩, .inl rfl, rfl, ?_⟩; show norm (mergeT (a, b)) _; rw [eAB]) | (refine ⟨_, mergeW, (b, a), ⟨pb, pa⟩, ⟨by first | exact leV_refl _ | rfl, by first | exact leV_refl _ | rfl, trivial⟩, .inl rfl, rfl, ?_⟩; show norm (mergeT (b, a)) _; rw [eBA]) | (refine ⟨_, mergeW, (a, a), ⟨pa, pa⟩, ⟨by first | exact leV_refl _ | rfl, by first | exact leV_refl _ | rfl, trivial⟩, .inl rfl, rfl, ?_⟩; show norm (mergeT (a, a)) _; rw [eAA]) | (refine ⟨_, mergeW, (a, ([] : List Ride)), ⟨pa, pn⟩, ⟨by first | exact leV_refl _ | rfl, by first | exact leV_refl _ | rfl, trivial⟩, .inl rfl, rfl, ?_⟩; show norm (mergeT (a, ([] : List Ride))) _; rw [eAN]) | (refine ⟨_, mergeW, (b, c), ⟨pb, pc⟩, ⟨by first | exact leV_refl _ | rfl, by first | exact leV_refl _ | rfl, trivial⟩, .inl rfl, rfl, ?_⟩; show norm (mergeT (b, c)) _; rw [eBC]) | (refine ⟨_, same_h, (a, a), la, ⟨by first | exact leV_refl _ | rfl, by first | exact leV_refl _ | rfl, trivial⟩, .inl rfl, rfl, ?_⟩; show norm (B (decide (_ = _))) _; rw [decide_eq_true rfl]) | (refine ⟨_, same_h, (([] : List Ride), ([] : List Ride)), (by show (0 : Nat) ≤ _; decide), ⟨by first | exact leV_refl _ | rfl, by first | exact leV_refl _ | rfl, trivial⟩, .inl rfl, rfl, ?_⟩; show norm (B (decide (_ = _))) _; rw [decide_eq_true rfl]) | (refine ⟨_, mergeW, (m, c), ⟨pm, pc⟩, ⟨by first | exact leV_refl _ | rfl, by first | exact leV_refl _ | rfl, trivial⟩, .inl rfl, rfl, ?_⟩; show norm (mergeT (m, c)) _; rw [eMc]) | (refine ⟨_, same_h, (m, m), lm, ⟨by first | exact leV_refl _ | rfl, by first | exact leV_refl _ | rfl, trivial⟩, .inl rfl, rfl, ?_⟩; show norm (B (decide (_ = _))) _; rw [decide_eq_true rfl]) | exact ⟨[], rfl, trivial, rfl⟩ | fail)
          · obtain ⟨n, hn⟩ := merge_exists bs cs cbc
            have ln := hn.len bs cs
            have eBC := mergeT_ok bs cs hn (by omega)
            have pn' : n.length ≤ 3000 ∧ Sorted n := ⟨by omega, hn.1⟩
            by_cases cac : conflict a c
            · have eMc := mergeT_bad hm.1 cs ((conflict_merge hm).2 (.inl cac))
              have eAn := mergeT_bad sa hn.1 ((conflict_merge' hn).2 (.inr cac))
              repeat' ((conv => whnf); first | (refine ⟨fun h => ?_, fun h => ?_⟩ <;> try (exfalso; first | omega | exact absurd h (by decide) | exact h rfl | (simp at h; done) | (rw [hr] at h; exact absurd h (by decide)) | (rw [hq] at h; exact absurd h (by decide)) | (rw [hp] at h; exact absurd h (by decide)))) | refine ⟨_, alive_h, (), trivial, leVs_of_eq rfl, .inr rfl, rfl, ?_⟩ | refine ⟨_, lright_h, _, trivial, leVs_of_eq rfl, .inr rfl, rfl, ?_⟩ | (refine ⟨_, mergeW, (a, b), ⟨pa, pb⟩, ⟨by first | exact leV_refl _ | rfl, by first | exact leV_refl _ | rfl, trivial⟩, .inl rfl, rfl, ?_⟩; show norm (mergeT (a, b)) _; rw [eAB]) | (refine ⟨_, mergeW, (b, a), ⟨pb, pa⟩, ⟨by first | exact leV_refl _ | rfl, by first | exact leV_refl _ | rfl, trivial⟩, .inl rfl, rfl, ?_⟩; show norm (mergeT (b, a)) _; rw [eBA]) | (refine ⟨_, mergeW, (a, a), ⟨pa, pa⟩, ⟨by first | exact leV_refl _ | rfl, by first | exact leV_refl _ | rfl, trivial⟩, .inl rfl, rfl, ?_⟩; show norm (mergeT (a, a)) _; rw [eAA]) | (refine ⟨_, mergeW, (a, ([] : List Ride)), ⟨pa, pn⟩, ⟨by first | exact leV_refl _ | rfl, by first | exact leV_refl _ | rfl, trivial⟩, .inl rfl, rfl, ?_⟩; show norm (mergeT (a, ([] : List Ride))) _; rw [eAN]) | (refine ⟨_, mergeW, (b, c), ⟨pb, pc⟩, ⟨by first | exact leV_refl _ | rfl, by first | exact leV_refl _ | rfl, trivial⟩, .inl rfl, rfl, ?_⟩; show norm (mergeT (b, c)) _; rw [eBC]) | (refine ⟨_, same_h, (a, a), la, ⟨by first | exact leV_refl _ | rfl, by first | exact leV_refl _ | rfl, trivial⟩, .inl rfl, rfl, ?_⟩; show norm (B (decide (_ = _))) _; rw [decide_eq_true rfl]) | (refine ⟨_, same_h, (([] : List Ride), ([] : List Ride)), (by show (0 : Nat) ≤ _; decide), ⟨by first | exact leV_refl _ | rfl, by first | exact leV_refl _ | rfl, trivial⟩, .inl rfl, rfl, ?_⟩; show norm (B (decide (_ = _))) _; rw [decide_eq_true rfl]) | (refine ⟨_, mergeW, (m, c), ⟨pm, pc⟩, ⟨by first | exact leV_refl _ | rfl, by first | exact leV_refl _ | rfl, trivial⟩, .inl rfl, rfl, ?_⟩; show norm (mergeT (m, c)) _; rw [eMc]) | (refine ⟨_, mergeW, (a, n), ⟨pa, pn'⟩, ⟨by first | exact leV_refl _ | rfl, by first | exact leV_refl _ | rfl, trivial⟩, .inl rfl, rfl, ?_⟩; show norm (mergeT (a, n)) _; rw [eAn]) | (refine ⟨_, same_h, (m, m), lm, ⟨by first | exact leV_refl _ | rfl, by first | exact leV_refl _ | rfl, trivial⟩, .inl rfl, rfl, ?_⟩; show norm (B (decide (_ = _))) _; rw [decide_eq_true rfl]) | exact ⟨[], rfl, trivial, rfl⟩ | fail)
            · obtain ⟨x, hx⟩ := merge_exists hm.1 cs (fun h => ((conflict_merge hm).1 h).elim cac cbc)
              have lx := hx.len hm.1 cs
              have lx' : x.length ≤ 9223372036854775807 := by omega
              have eMc := mergeT_ok hm.1 cs hx (by omega)
              have eAn := mergeT_ok sa hn.1 (isMerge_assoc hm hn hx) (by omega)
              have eR : right x = 0 := right_of (by omega) (fun y hy => ((hx.2 y).1 hy).elim (fun h => ((hm.2 y).1 h).elim (aok y) (bok y)) (cok y)) hx.1
              repeat' ((conv => whnf); first | (refine ⟨fun h => ?_, fun h => ?_⟩ <;> try (exfalso; first | omega | exact absurd h (by decide) | exact h rfl | (simp at h; done) | (rw [hr] at h; exact absurd h (by decide)) | (rw [hq] at h; exact absurd h (by decide)) | (rw [hp] at h; exact absurd h (by decide)))) | refine ⟨_, alive_h, (), trivial, leVs_of_eq rfl, .inr rfl, rfl, ?_⟩ | refine ⟨_, lright_h, _, trivial, leVs_of_eq rfl, .inr rfl, rfl, ?_⟩ | (refine ⟨_, mergeW, (a, b), ⟨pa, pb⟩, ⟨by first | exact leV_refl _ | rfl, by first | exact leV_refl _ | rfl, trivial⟩, .inl rfl, rfl, ?_⟩; show norm (mergeT (a, b)) _; rw [eAB]) | (refine ⟨_, mergeW, (b, a), ⟨pb, pa⟩, ⟨by first | exact leV_refl _ | rfl, by first | exact leV_refl _ | rfl, trivial⟩, .inl rfl, rfl, ?_⟩; show norm (mergeT (b, a)) _; rw [eBA]) | (refine ⟨_, mergeW, (a, a), ⟨pa, pa⟩, ⟨by first | exact leV_refl _ | rfl, by first | exact leV_refl _ | rfl, trivial⟩, .inl rfl, rfl, ?_⟩; show norm (mergeT (a, a)) _; rw [eAA]) | (refine ⟨_, mergeW, (a, ([] : List Ride)), ⟨pa, pn⟩, ⟨by first | exact leV_refl _ | rfl, by first | exact leV_refl _ | rfl, trivial⟩, .inl rfl, rfl, ?_⟩; show norm (mergeT (a, ([] : List Ride))) _; rw [eAN]) | (refine ⟨_, mergeW, (b, c), ⟨pb, pc⟩, ⟨by first | exact leV_refl _ | rfl, by first | exact leV_refl _ | rfl, trivial⟩, .inl rfl, rfl, ?_⟩; show norm (mergeT (b, c)) _; rw [eBC]) | (refine ⟨_, same_h, (a, a), la, ⟨by first | exact leV_refl _ | rfl, by first | exact leV_refl _ | rfl, trivial⟩, .inl rfl, rfl, ?_⟩; show norm (B (decide (_ = _))) _; rw [decide_eq_true rfl]) | (refine ⟨_, same_h, (([] : List Ride), ([] : List Ride)), (by show (0 : Nat) ≤ _; decide), ⟨by first | exact leV_refl _ | rfl, by first | exact leV_refl _ | rfl, trivial⟩, .inl rfl, rfl, ?_⟩; show norm (B (decide (_ = _))) _; rw [decide_eq_true rfl]) | (refine ⟨_, mergeW, (m, c), ⟨pm, pc⟩, ⟨by first | exact leV_refl _ | rfl, by first | exact leV_refl _ | rfl, trivial⟩, .inl rfl, rfl, ?_⟩; show norm (mergeT (m, c)) _; rw [eMc]) | (refine ⟨_, mergeW, (a, n), ⟨pa, pn'⟩, ⟨by first | exact leV_refl _ | rfl, by first | exact leV_refl _ | rfl, trivial⟩, .inl rfl, rfl, ?_⟩; show norm (mergeT (a, n)) _; rw [eAn]) | (refine ⟨_, same_h, (m, m), lm, ⟨by first | exact leV_refl _ | rfl, by first | exact leV_refl _ | rfl, trivial⟩, .inl rfl, rfl, ?_⟩; show norm (B (decide (_ = _))) _; rw [decide_eq_true rfl]) | (refine ⟨_, same_h, (x, x), lx', ⟨by first | exact leV_refl _ | rfl, by first | exact leV_refl _ | rfl, trivial⟩, .inl rfl, rfl, ?_⟩; show norm (B (decide (_ = _))) _; rw [decide_eq_true rfl]) | (refine ⟨_, right_h, x, trivial, leVs_of_eq rfl, .inl rfl, rfl, ?_⟩; show norm (I (right x)) _; rw [eR]) | exact ⟨[], rfl, trivial, rfl⟩ | fail)
      · repeat' ((conv => whnf); first | (refine ⟨fun h => ?_, fun h => ?_⟩ <;> try (exfalso; first | omega | exact absurd h (by decide) | exact h rfl | (simp at h; done) | (rw [hr] at h; exact absurd h (by decide)) | (rw [hq] at h; exact absurd h (by decide)) | (exact hp h))) | refine ⟨_, alive_h, (), trivial, leVs_of_eq rfl, .inr rfl, rfl, ?_⟩ | refine ⟨_, lright_h, _, trivial, leVs_of_eq rfl, .inr rfl, rfl, ?_⟩ | exact ⟨[], rfl, trivial, rfl⟩ | fail)
    · repeat' ((conv => whnf); first | (refine ⟨fun h => ?_, fun h => ?_⟩ <;> try (exfalso; first | omega | exact absurd h (by decide) | exact h rfl | (simp at h; done) | (rw [hr] at h; exact absurd h (by decide)) | (exact hq h))) | refine ⟨_, alive_h, (), trivial, leVs_of_eq rfl, .inr rfl, rfl, ?_⟩ | refine ⟨_, lright_h, _, trivial, leVs_of_eq rfl, .inr rfl, rfl, ?_⟩ | exact ⟨[], rfl, trivial, rfl⟩ | fail)
  · repeat' ((conv => whnf); first | (refine ⟨fun h => ?_, fun h => ?_⟩ <;> try (exfalso; first | omega | exact absurd h (by decide) | exact h rfl | (simp at h; done) | (exact hr h))) | refine ⟨_, alive_h, (), trivial, leVs_of_eq rfl, .inr rfl, rfl, ?_⟩ | refine ⟨_, lright_h, _, trivial, leVs_of_eq rfl, .inr rfl, rfl, ?_⟩ | exact ⟨[], rfl, trivial, rfl⟩ | fail)
theorem law_h : Holds Try.prog 7 lawS := holds_of mix Try.func7 lawLow (fun _ => rfl) lawV

/-! ### THE ROW's STEP -/
theorem own : ownKnob Try.prog.godebug = none := by kernel_rfl
theorem laidOut : laidOutB Try.prog = true := by kernel_rfl
set_option maxRecDepth 100000 in
theorem lifted (os : Os) (started : os.Started) (H : Type) (enc : TypeId × Value → H) :
    ReturnsInHanded {} Try.checked os 7 .any (Rows.ridesMergeSpec.pre6 enc Try.prog Try.f7 Rows.ridesMergeRow.domain false) (Rows.ridesMergeSpec.post enc Try.prog Try.f7 false true false false) := by
  refine returnsInHanded_of_change (C := Try.checked) own started (by kernel_rfl) Try.func7
    (ChangeSpec.witness6 (enc := enc) (C := Try.checked) false ⟨#[], #[.slice none 0 0, .slice none 0 0, .slice none 0 0], []⟩ 8 (by kernel_rfl) (by kernel_rfl) (by kernel_rfl) (by kernel_rfl)) ?_
  intro W base args ds gs before hval0 hW hcnd _
  have hval : ∀ (j : Nat) t v, Try.f7.params[j]? = some t → args[j]? = some v → Value.okWide Try.prog W .any base t v := hval0
  have hW' := hW
  obtain ⟨p, q, hA0, hV, rfl, hfz, hnd⟩ := hW
  have hA : DataW.TrodAll enc Try.prog W 0 (fun _ => true) true Try.f7.params.toList args.toList ds p := hA0
  rw [Try.params7] at hA hval
  obtain ⟨v0, vs0, d0, ds0, p0, q0, hargs, rfl, rfl, h0, r0⟩ := trodAll_cons hA
  obtain ⟨v1, vs1, d1, ds1, p1, q1, rfl, rfl, rfl, h1, r1⟩ := trodAll_cons r0
  obtain ⟨v2, vs2, d2, ds2, p2, q2, rfl, rfl, rfl, h2, r2⟩ := trodAll_cons r1
  obtain ⟨rfl, rfl, rfl⟩ := trodAll_nil r2
  obtain rfl : args = #[v0, v1, v2] := by cases args; simp_all
  obtain ⟨rfl, rfl⟩ := trodVars_none hV
  have lt0 : ∀ x ∈ p0, x.block < W.heap.size := by obtain ⟨m, hm⟩ := h0; exact DataW.trod_lt m _ _ _ hm
  obtain ⟨z0, w0, x0⟩ := openRides (hval 0 22 v0 rfl rfl) h0
  have lt1 : ∀ x ∈ p1, x.block < W.heap.size := by obtain ⟨m, hm⟩ := h1; exact DataW.trod_lt m _ _ _ hm
  obtain ⟨z1, w1, x1⟩ := openRides (hval 1 22 v1 rfl rfl) h1
  have lt2 : ∀ x ∈ p2, x.block < W.heap.size := by obtain ⟨m, hm⟩ := h2; exact DataW.trod_lt m _ _ _ hm
  obtain ⟨z2, w2, x2⟩ := openRides (hval 2 22 v2 rfl rfl) h2
  clear hA0 hval0
  refine Calls.mono (law_calls law_h (z0, z1, z2) trivial rfl (vs := [v0, v1, v2]) (replist_mk x0 (replist_mk x1 (replist_mk x2 replist_mk0)))) fun e W' ⟨he, bel⟩ => ?_
  subst he
  exact ⟨_, rfl, _, _, _, [], _, [], hW', trodAll_mk1 (shut_bool Try.underlying4 _), (trodAll_cons_mk (Below.trod laidOut (by kernel_rfl) (of_decide_eq_true (by kernel_rfl)) h0 bel lt0) (trodAll_cons_mk (Below.trod laidOut (by kernel_rfl) (of_decide_eq_true (by kernel_rfl)) h1 bel lt1) (trodAll_cons_mk (Below.trod laidOut (by kernel_rfl) (of_decide_eq_true (by kernel_rfl)) h2 bel lt2) trodAll_mk0))), rfl, bel.frame _, fun h => by cases h⟩

theorem over : Rows.ridesMergeRow.holds Try.pinned (OpenSpec.ofChange Rows.ridesMergeSpec) :=
  OpenClaim.holds_of_wide 7 Try.f7 rfl rfl rfl rfl rfl rfl rfl ⟨rfl, rfl, rfl, rfl, rfl⟩ rfl rfl rfl rfl rfl (by kernel_rfl) Try.func7 (by kernel_rfl)
    (of_decide_eq_true (by kernel_rfl)) (by unfold Func.isWrapper; first | (rw [if_pos (by decide +kernel)]; kernel_rfl) | (rw [if_neg (by decide +kernel)]; exact ⟨rfl, rfl⟩))
    (fun os started H enc _ => lifted os started H enc)

theorem proved : Rows.RidesMergeSaid := over
end Go.Proofs.Ytfghmpfiemmbgaa.lawMerge
