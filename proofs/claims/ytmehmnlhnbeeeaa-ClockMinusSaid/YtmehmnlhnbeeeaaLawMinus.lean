/- ClockMinus: Merge, Minus and Cover are the operations on sets of times. No condition. -/
import Derived.Test.YtmehmnlhnbeeeaaArg
import Derived.Test.YtmehmnlhnbeeeaaP6
namespace Go.Proofs.Ytmehmnlhnbeeeaa.lawMinus
open Go.ChangeShapes Go.WideShapes Go.ChangeAt Go.RowKit Go.Deep Go.Joins
set_option linter.unusedVariables false
theorem cov_hit {a : List Ivl} {k : Nat} {x : Ivl} {t : Int} (hx : a[k]? = some x) (h : cov (a.take k) t ∨ at1 x t) : cov (a.take (k + 1)) t := by
  rw [take_snoc _ _ _ hx, cov_append]
  exact h.imp id fun h => ⟨x, by simp, h⟩
theorem cov_miss {a : List Ivl} {k : Nat} {x : Ivl} {t : Int} (hx : a[k]? = some x) (h : ¬ cov (a.take k) t) (h2 : ¬ at1 x t) : ¬ cov (a.take (k + 1)) t := by
  rw [take_snoc _ _ _ hx, cov_append]
  rintro (h' | ⟨y, hy, h'⟩)
  · exact h h'
  · simp at hy; subst hy; exact h2 h'

/-! skiarea/skiarealaw02.ClockMinus -/
def lawIr : IFn := ⟨121, [.tmp 6],
  (.seq (.ops [
    ⟨(some 6), .mov, [.const (.bool false)], none⟩] false)
  (.seq (.seq (.ops [
    ⟨(some 11), .call 11, [], none⟩,
    ⟨(some 12), .not, [.tmp 11], none⟩] false)
  (.cond (.tmp 12)
    (.seq (.ops [
      ⟨(some 6), .mov, [.const (.bool false)], none⟩] false)
    .ret)
    .skip))
  (.seq (.seq (.ops [
    ⟨(some 13), .mov, [.tmp 0], none⟩,
    ⟨(some 14), .call 24, [.tmp 13], none⟩,
    ⟨(some 15), .not, [.tmp 14], none⟩,
    ⟨(some 16), .mov, [.tmp 15], none⟩,
    ⟨(some 17), .mov, [.tmp 1], (some (16, false))⟩,
    ⟨(some 18), .call 24, [.tmp 17], (some (16, false))⟩,
    ⟨(some 19), .not, [.tmp 18], (some (16, false))⟩,
    ⟨(some 20), .pick, [.tmp 16, .const (.bool true), .tmp 19], none⟩] false)
  (.cond (.tmp 20)
    (.seq (.ops [
      ⟨(some 6), .mov, [.const (.bool true)], none⟩] false)
    .ret)
    .skip))
  (.seq (.ops [
    ⟨(some 21), .mov, [.tmp 0], none⟩,
    ⟨(some 22), .call 29, [.tmp 21], none⟩,
    ⟨(some 23), .mov, [.tmp 0], none⟩,
    ⟨(some 24), .mov, [.tmp 1], none⟩,
    ⟨(some 25), .call 26, [.tmp 23, .tmp 24], none⟩,
    ⟨(some 7), .mov, [.tmp 22], none⟩,
    ⟨(some 8), .mov, [.tmp 25], none⟩] false)
  (.seq (.seq (.ops [
    ⟨(some 26), .mov, [.tmp 7], none⟩,
    ⟨(some 27), .call 34, [.tmp 26], none⟩,
    ⟨(some 28), .not, [.tmp 27], none⟩,
    ⟨(some 29), .mov, [.tmp 28], none⟩,
    ⟨(some 30), .mov, [.tmp 8], (some (29, false))⟩,
    ⟨(some 31), .call 34, [.tmp 30], (some (29, false))⟩,
    ⟨(some 32), .not, [.tmp 31], (some (29, false))⟩,
    ⟨(some 33), .pick, [.tmp 29, .const (.bool true), .tmp 32], none⟩,
    ⟨(some 34), .mov, [.tmp 33], none⟩,
    ⟨(some 35), .mov, [.tmp 7], (some (34, false))⟩,
    ⟨(some 36), .call 29, [.tmp 35], (some (34, false))⟩,
    ⟨(some 37), .mov, [.tmp 7], (some (34, false))⟩,
    ⟨(some 38), .call 25, [.tmp 36, .tmp 37], (some (34, false))⟩,
    ⟨(some 39), .not, [.tmp 38], (some (34, false))⟩,
    ⟨(some 40), .pick, [.tmp 34, .const (.bool true), .tmp 39], none⟩,
    ⟨(some 41), .mov, [.tmp 40], none⟩,
    ⟨(some 42), .mov, [.tmp 0], (some (41, false))⟩,
    ⟨(some 43), .call 26, [.tmp 42, .const (.slice none 0 0)], (some (41, false))⟩,
    ⟨(some 44), .mov, [.tmp 7], (some (41, false))⟩,
    ⟨(some 45), .call 25, [.tmp 43, .tmp 44], (some (41, false))⟩,
    ⟨(some 46), .not, [.tmp 45], (some (41, false))⟩,
    ⟨(some 47), .pick, [.tmp 41, .const (.bool true), .tmp 46], none⟩,
    ⟨(some 48), .mov, [.tmp 47], none⟩,
    ⟨(some 49), .mov, [.tmp 0], (some (48, false))⟩,
    ⟨(some 50), .mov, [.tmp 0], (some (48, false))⟩,
    ⟨(some 51), .call 26, [.tmp 49, .tmp 50], (some (48, false))⟩,
    ⟨(some 52), .len, [.tmp 51], (some (48, false))⟩,
    ⟨(some 53), .cmp .neq, [.tmp 52, .const (.int .i64 0)], (some (48, false))⟩,
    ⟨(some 54), .pick, [.tmp 48, .const (.bool true), .tmp 53], none⟩] false)
  (.cond (.tmp 54)
    (.seq (.ops [
      ⟨(some 6), .mov, [.const (.bool false)], none⟩] false)
    .ret)
    .skip))
  (.seq (.ops [
    ⟨(some 9), .mov, [.const (.bool false)], none⟩] false)
  (.seq (.seq (.ops [
    ⟨(some 10), .mov, [.const (.int .i64 0)], none⟩] false)
  (.block 0
    (.loop
      (.seq (.seq (.ops [
        ⟨(some 55), .mov, [.tmp 10], none⟩,
        ⟨(some 56), .mov, [.tmp 0], none⟩,
        ⟨(some 57), .len, [.tmp 56], none⟩,
        ⟨(some 58), .cmp .lss, [.tmp 55, .tmp 57], none⟩] false)
      (.cond (.tmp 58)
        .skip
        (.exit 0)))
      (.seq (.block 1
        (.ops [
          ⟨(some 61), .mov, [.tmp 9], none⟩,
          ⟨(some 62), .mov, [.tmp 61], none⟩,
          ⟨(some 63), .mov, [.tmp 0], (some (62, false))⟩,
          ⟨(some 64), .mov, [.tmp 10], (some (62, false))⟩,
          ⟨(some 65), .idx 2, [.tmp 63, .tmp 64], (some (62, false))⟩,
          ⟨(some 66), .faddr 0, [.tmp 65], (some (62, false))⟩,
          ⟨(some 67), .load 1 false, [.tmp 66], (some (62, false))⟩,
          ⟨(some 68), .cmp .geq, [.tmp 67, .const (.int .i64 0)], (some (62, false))⟩,
          ⟨(some 69), .mov, [.tmp 68], (some (62, false))⟩,
          ⟨(some 70), .mov, [.tmp 0], (some (69, true))⟩,
          ⟨(some 71), .mov, [.tmp 10], (some (69, true))⟩,
          ⟨(some 72), .idx 2, [.tmp 70, .tmp 71], (some (69, true))⟩,
          ⟨(some 73), .faddr 1, [.tmp 72], (some (69, true))⟩,
          ⟨(some 74), .load 1 false, [.tmp 73], (some (69, true))⟩,
          ⟨(some 75), .cmp .leq, [.tmp 74, .const (.int .i64 20000000)], (some (69, true))⟩,
          ⟨(some 76), .pick, [.tmp 69, .tmp 75, .const (.bool false)], (some (62, false))⟩,
          ⟨(some 77), .mov, [.tmp 76], (some (62, false))⟩,
          ⟨(some 78), .mov, [.tmp 0], (some (77, true))⟩,
          ⟨(some 79), .mov, [.tmp 10], (some (77, true))⟩,
          ⟨(some 80), .idx 2, [.tmp 78, .tmp 79], (some (77, true))⟩,
          ⟨(some 81), .faddr 0, [.tmp 80], (some (77, true))⟩,
          ⟨(some 82), .load 1 false, [.tmp 81], (some (77, true))⟩,
          ⟨(some 83), .mov, [.tmp 2], (some (77, true))⟩,
          ⟨(some 84), .cmp .leq, [.tmp 82, .tmp 83], (some (77, true))⟩,
          ⟨(some 85), .pick, [.tmp 77, .tmp 84, .const (.bool false)], (some (62, false))⟩,
          ⟨(some 86), .mov, [.tmp 85], (some (62, false))⟩,
          ⟨(some 87), .mov, [.tmp 2], (some (86, true))⟩,
          ⟨(some 88), .mov, [.tmp 0], (some (86, true))⟩,
          ⟨(some 89), .mov, [.tmp 10], (some (86, true))⟩,
          ⟨(some 90), .idx 2, [.tmp 88, .tmp 89], (some (86, true))⟩,
          ⟨(some 91), .faddr 1, [.tmp 90], (some (86, true))⟩,
          ⟨(some 92), .load 1 false, [.tmp 91], (some (86, true))⟩,
          ⟨(some 93), .cmp .lss, [.tmp 87, .tmp 92], (some (86, true))⟩,
          ⟨(some 94), .pick, [.tmp 86, .tmp 93, .const (.bool false)], (some (62, false))⟩,
          ⟨(some 95), .pick, [.tmp 62, .const (.bool true), .tmp 94], none⟩,
          ⟨(some 9), .mov, [.tmp 95], none⟩] false))
      (.ops [
        ⟨(some 59), .mov, [.tmp 10], none⟩,
        ⟨(some 60), .bin .add .i64 false, [.tmp 59, .const (.int .i64 1)], none⟩,
        ⟨(some 10), .mov, [.tmp 60], none⟩] false))))))
  (.seq (.ops [
    ⟨(some 96), .mov, [.tmp 0], none⟩,
    ⟨(some 97), .mov, [.tmp 2], none⟩,
    ⟨(some 98), .call 31, [.tmp 96, .tmp 97], none⟩,
    ⟨(some 99), .mov, [.tmp 9], none⟩,
    ⟨(some 100), .eqb false, [.tmp 98, .tmp 99], none⟩,
    ⟨(some 101), .mov, [.tmp 100], none⟩,
    ⟨(some 102), .mov, [.tmp 7], (some (101, true))⟩,
    ⟨(some 103), .mov, [.tmp 2], (some (101, true))⟩,
    ⟨(some 104), .call 31, [.tmp 102, .tmp 103], (some (101, true))⟩,
    ⟨(some 105), .mov, [.tmp 9], (some (101, true))⟩,
    ⟨(some 106), .eqb false, [.tmp 104, .tmp 105], (some (101, true))⟩,
    ⟨(some 107), .pick, [.tmp 101, .tmp 106, .const (.bool false)], none⟩,
    ⟨(some 108), .mov, [.tmp 107], none⟩,
    ⟨(some 109), .mov, [.tmp 8], (some (108, true))⟩,
    ⟨(some 110), .mov, [.tmp 2], (some (108, true))⟩,
    ⟨(some 111), .call 31, [.tmp 109, .tmp 110], (some (108, true))⟩,
    ⟨(some 112), .mov, [.tmp 9], (some (108, true))⟩,
    ⟨(some 113), .mov, [.tmp 112], (some (108, true))⟩,
    ⟨(some 114), .mov, [.tmp 1], (some (113, true))⟩,
    ⟨(some 115), .mov, [.tmp 2], (some (113, true))⟩,
    ⟨(some 116), .call 31, [.tmp 114, .tmp 115], (some (113, true))⟩,
    ⟨(some 117), .not, [.tmp 116], (some (113, true))⟩,
    ⟨(some 118), .pick, [.tmp 113, .tmp 117, .const (.bool false)], (some (108, true))⟩,
    ⟨(some 119), .eqb false, [.tmp 111, .tmp 118], (some (108, true))⟩,
    ⟨(some 120), .pick, [.tmp 108, .tmp 119, .const (.bool false)], none⟩,
    ⟨(some 6), .mov, [.tmp 120], none⟩] false)
  .ret))))))))⟩
theorem lawLow : lowF Try.prog {} Try.f10 = some lawIr := by kernel_rfl
def lawS : Spec := spec (List Ivl × List Ivl × Int) (fun p => [L 2 (p.1.map encV), L 2 (p.2.1.map encV), I p.2.2]) (fun _ => True) (fun _ => B true)
theorem lawV : fnV Try.prog lawIr lawS := by
  intro ⟨(a : List Ivl), (b : List Ivl), (t : Int)⟩ _
  show vc _ _ _ ⟨argEnv 0 [L 2 (a.map encV), L 2 (b.map encV), I t], [], 0⟩
  by_cases ha : a.length ≤ 60
  · by_cases hb : b.length ≤ 60
    · have pa : a.length ≤ 1000000 := by omega
      have pb : b.length ≤ 1000000 := by omega
      have pa2 : a.length ≤ 9223372036854775807 := by omega
      have pb2 : b.length ≤ 9223372036854775807 := by omega
      have hml := merge_len a
      have pm : (mergeF a).length ≤ 1000000 := by omega
      have pm2 : (mergeF a).length ≤ 9223372036854775807 := by omega
      have pd2 : (minusF a b).length ≤ 9223372036854775807 := by have := minus_few ha hb; omega
      have hP1 : Plain (mergeF a) := (merge_spec a).1
      have hP2 : Plain (minusF a b) := (minus_spec a b).1
      have hla : (a.map encV).length = a.length := List.length_map ..
      have eM : L 2 ((mergeF (mergeF a)).map encV) = L 2 ((mergeF a).map encV) := by rw [merge_merge]
      have eN : L 2 ((minusF a []).map encV) = L 2 ((mergeF a).map encV) := by rw [merge_minus]
      have eS : L 2 ((minusF a a).map encV) = L 2 [] := by rw [minus_self]; rfl
      have hcm : decide (cov (mergeF a) t) = decide (cov a t) := by rw [decide_eq_decide]; exact (merge_spec a).2 t
      have hcd : decide (cov (minusF a b) t) = (decide (cov a t) && !decide (cov b t)) := by
        rw [← decide_not, ← Bool.decide_and, decide_eq_decide]; exact (minus_spec a b).2 t
      repeat' ((conv => whnf); first | (refine ⟨fun h => ?_, fun h => ?_⟩ <;> try (exfalso; first | omega | exact absurd h (by decide) | exact h rfl)) | (refine ⟨_, alive_h, (), trivial, leVs_of_eq rfl, .inl rfl, rfl, ?_⟩; show norm (B true) _) | (refine ⟨_, few_h, a, trivial, leVs_of_eq rfl, .inl rfl, rfl, ?_⟩; show norm (B (decide (a.length ≤ 60))) _; rw [decide_eq_true ha]) | (refine ⟨_, few_h, b, trivial, leVs_of_eq rfl, .inl rfl, rfl, ?_⟩; show norm (B (decide (b.length ≤ 60))) _; rw [decide_eq_true hb]) | (refine ⟨_, merge_h, a, pa, leVs_of_eq rfl, .inl rfl, rfl, ?_⟩; show norm (L 2 ((mergeF a).map encV)) _) | (refine ⟨_, minus_h, (a, b), ⟨pa, pb⟩, leVs_of_eq rfl, .inl rfl, rfl, ?_⟩; show norm (L 2 ((minusF a b).map encV)) _) | (refine ⟨_, plainl_h, (mergeF a), hP1, leVs_of_eq rfl, .inl rfl, rfl, ?_⟩; show norm (B true) _) | (refine ⟨_, plainl_h, (minusF a b), hP2, leVs_of_eq rfl, .inl rfl, rfl, ?_⟩; show norm (B true) _) | (refine ⟨_, merge_h, (mergeF a), pm, leVs_of_eq rfl, .inl rfl, rfl, ?_⟩; show norm (L 2 ((mergeF (mergeF a)).map encV)) _; rw [eM]) | (refine ⟨_, minus_h, (a, ([] : List Ivl)), ⟨pa, by show (0 : Nat) ≤ _; decide⟩, ⟨by first | exact leV_refl _ | rfl, by first | exact leV_refl _ | rfl, trivial⟩, .inl rfl, rfl, ?_⟩; show norm (L 2 ((minusF a ([] : List Ivl)).map encV)) _; rw [eN]) | (refine ⟨_, minus_h, (a, a), ⟨pa, pa⟩, leVs_of_eq rfl, .inl rfl, rfl, ?_⟩; show norm (L 2 ((minusF a a).map encV)) _; rw [eS]) | (refine ⟨_, same_h, (mergeF a, mergeF a), pm2, leVs_of_eq rfl, .inl rfl, rfl, ?_⟩; show norm (B (decide (_ = _))) _; rw [decide_eq_true rfl]) | fail)
      conv => whnf
      refine ⟨Nat × Bool, fun xq => ⟨[(0, L 2 (a.map encV)), (1, L 2 (b.map encV)), (2, I t), (7, L 2 ((mergeF a).map encV)), (8, L 2 ((minusF a b).map encV)), (9, B xq.2), (10, I xq.1)], [], 0⟩, fun xq => xq.1 ≤ a.length ∧ xq.2 = decide (cov (a.take xq.1) t), fun xq => a.length - xq.1, ⟨(0, false), ?_, [], ⟨⟨rfl, rfl⟩, ⟨⟨rfl, rfl⟩, ⟨⟨rfl, rfl⟩, ⟨⟨rfl, rfl⟩, ⟨⟨rfl, rfl⟩, ⟨⟨rfl, rfl⟩, ⟨⟨rfl, rfl⟩, trivial⟩⟩⟩⟩⟩⟩⟩, trivial, rfl, rfl⟩, ?_⟩
      · (try dsimp only); exact ⟨Nat.zero_le _, rfl⟩
      rintro ⟨k, f⟩ hk
      obtain ⟨hk, hf⟩ : k ≤ a.length ∧ f = decide (cov (a.take k) t) := hk
      (try dsimp only)
      by_cases hkl : k < a.length
      · obtain ⟨x, hx⟩ := getElem_some hkl
        cases f
        · repeat' ((conv => whnf); first | (refine ⟨(k + 1, true), ⟨?_, by (try dsimp only); omega⟩, [], ⟨⟨rfl, rfl⟩, ⟨⟨rfl, rfl⟩, ⟨⟨rfl, rfl⟩, ⟨⟨rfl, rfl⟩, ⟨⟨rfl, rfl⟩, ⟨⟨rfl, rfl⟩, ⟨⟨rfl, rfl⟩, trivial⟩⟩⟩⟩⟩⟩⟩, trivial, rfl, rfl⟩; (try dsimp only); exact ⟨by omega, (decide_eq_true (cov_hit hx (.inr ⟨⟨by omega, by omega, by omega⟩, by omega, by omega⟩))).symm⟩) | (refine ⟨(k + 1, false), ⟨?_, by (try dsimp only); omega⟩, [], ⟨⟨rfl, rfl⟩, ⟨⟨rfl, rfl⟩, ⟨⟨rfl, rfl⟩, ⟨⟨rfl, rfl⟩, ⟨⟨rfl, rfl⟩, ⟨⟨rfl, rfl⟩, ⟨⟨rfl, rfl⟩, trivial⟩⟩⟩⟩⟩⟩⟩, trivial, rfl, rfl⟩; (try dsimp only); exact ⟨by omega, (decide_eq_false (cov_miss hx (of_decide_eq_false hf.symm) (fun hc => by unfold at1 validI at hc; omega))).symm⟩) | (refine ⟨fun h => ?_, fun h => ?_⟩ <;> try (exfalso; first | omega | exact absurd h (by decide) | exact h rfl)) | (refine ⟨by omega, fun r hrr => ?_⟩; obtain rfl := get_row hrr hx) | refine ⟨⟨by omega, by omega⟩, ?_⟩ | fail)
        · repeat' ((conv => whnf); first | (refine ⟨(k + 1, true), ⟨?_, by (try dsimp only); omega⟩, [], ⟨⟨rfl, rfl⟩, ⟨⟨rfl, rfl⟩, ⟨⟨rfl, rfl⟩, ⟨⟨rfl, rfl⟩, ⟨⟨rfl, rfl⟩, ⟨⟨rfl, rfl⟩, ⟨⟨rfl, rfl⟩, trivial⟩⟩⟩⟩⟩⟩⟩, trivial, rfl, rfl⟩; (try dsimp only); exact ⟨by omega, (decide_eq_true (cov_hit hx (.inl (of_decide_eq_true hf.symm)))).symm⟩) | (refine ⟨fun h => ?_, fun h => ?_⟩ <;> try (exfalso; first | omega | exact absurd h (by decide) | exact h rfl)) | (refine ⟨by omega, fun r hrr => ?_⟩; obtain rfl := get_row hrr hx) | refine ⟨⟨by omega, by omega⟩, ?_⟩ | fail)
      · rw [take_end hkl] at hf
        subst hf
        cases hca : decide (cov a t) <;> cases hcb : decide (cov b t)
        all_goals
          rw [hca] at hcm
          rw [hca, hcb] at hcd
          repeat' ((conv => whnf); first | (refine ⟨fun h => ?_, fun h => ?_⟩ <;> try (exfalso; first | omega | exact absurd h (by decide) | exact h rfl)) | (refine ⟨_, cover_h, (a, t), pa2, leVs_of_eq rfl, .inl rfl, rfl, ?_⟩; show norm (B (decide (cov a t))) _; rw [hca]) | (refine ⟨_, cover_h, ((mergeF a), t), pm2, leVs_of_eq rfl, .inl rfl, rfl, ?_⟩; show norm (B (decide (cov (mergeF a) t))) _; rw [hcm]) | (refine ⟨_, cover_h, (b, t), pb2, leVs_of_eq rfl, .inl rfl, rfl, ?_⟩; show norm (B (decide (cov b t))) _; rw [hcb]) | (refine ⟨_, cover_h, (minusF a b, t), pd2, leVs_of_eq rfl, .inl rfl, rfl, ?_⟩; show norm (B (decide (cov (minusF a b) t))) _; rw [hcd]) | exact ⟨[], rfl, trivial, rfl⟩ | fail)
    · repeat' ((conv => whnf); first | (refine ⟨fun h => ?_, fun h => ?_⟩ <;> try (exfalso; first | omega | exact absurd h (by decide) | exact h rfl)) | (refine ⟨_, alive_h, (), trivial, leVs_of_eq rfl, .inl rfl, rfl, ?_⟩; show norm (B true) _) | (refine ⟨_, few_h, a, trivial, leVs_of_eq rfl, .inl rfl, rfl, ?_⟩; show norm (B (decide (a.length ≤ 60))) _; rw [decide_eq_true ha]) | (refine ⟨_, few_h, b, trivial, leVs_of_eq rfl, .inl rfl, rfl, ?_⟩; show norm (B (decide (b.length ≤ 60))) _; rw [decide_eq_false hb]) | exact ⟨[], rfl, trivial, rfl⟩ | fail)
  · repeat' ((conv => whnf); first | (refine ⟨fun h => ?_, fun h => ?_⟩ <;> try (exfalso; first | omega | exact absurd h (by decide) | exact h rfl)) | (refine ⟨_, alive_h, (), trivial, leVs_of_eq rfl, .inl rfl, rfl, ?_⟩; show norm (B true) _) | (refine ⟨_, few_h, a, trivial, leVs_of_eq rfl, .inl rfl, rfl, ?_⟩; show norm (B (decide (a.length ≤ 60))) _; rw [decide_eq_false ha]) | exact ⟨[], rfl, trivial, rfl⟩ | fail)
theorem law_h : Holds Try.prog 10 lawS := holds_of mix Try.func10 lawLow (fun _ => rfl) lawV

/-! ### THE ROW's STEP -/
theorem own : ownKnob Try.prog.godebug = none := by kernel_rfl
theorem laidOut : laidOutB Try.prog = true := by kernel_rfl
set_option maxRecDepth 100000 in
theorem lifted (os : Os) (started : os.Started) (H : Type) (enc : TypeId × Value → H) :
    ReturnsInHanded {} Try.checked os 10 .any (Rows.clockMinusSpec.pre6 enc Try.prog Try.f10 Rows.clockMinusRow.domain false) (Rows.clockMinusSpec.post enc Try.prog Try.f10 false true false false) := by
  refine returnsInHanded_of_change (C := Try.checked) own started (by kernel_rfl) Try.func10
    (ChangeSpec.witness6 (enc := enc) (C := Try.checked) false ⟨#[], #[.slice none 0 0, .slice none 0 0, .int .i64 0], []⟩ 8 (by kernel_rfl) (by kernel_rfl) (by kernel_rfl) (by kernel_rfl)) ?_
  intro W base args ds gs before hval0 hW hcnd _
  have hval : ∀ (j : Nat) t v, Try.f10.params[j]? = some t → args[j]? = some v → Value.okWide Try.prog W .any base t v := hval0
  have hW' := hW
  obtain ⟨p, q, hA0, hV, rfl, hfz, hnd⟩ := hW
  have hA : DataW.TrodAll enc Try.prog W 0 (fun _ => true) true Try.f10.params.toList args.toList ds p := hA0
  rw [Try.params10] at hA hval
  obtain ⟨v0, vs0, d0, ds0, p0, q0, hargs, rfl, rfl, h0, r0⟩ := trodAll_cons hA
  obtain ⟨v1, vs1, d1, ds1, p1, q1, rfl, rfl, rfl, h1, r1⟩ := trodAll_cons r0
  obtain ⟨v2, vs2, d2, ds2, p2, q2, rfl, rfl, rfl, h2, r2⟩ := trodAll_cons r1
  obtain ⟨rfl, rfl, rfl⟩ := trodAll_nil r2
  obtain rfl : args = #[v0, v1, v2] := by cases args; simp_all
  obtain ⟨rfl, rfl⟩ := trodVars_none hV
  have lt0 : ∀ x ∈ p0, x.block < W.heap.size := by obtain ⟨m, hm⟩ := h0; exact DataW.trod_lt m _ _ _ hm
  obtain ⟨z0, w0, x0⟩ := openIvls (hval 0 30 v0 rfl rfl) h0
  have lt1 : ∀ x ∈ p1, x.block < W.heap.size := by obtain ⟨m, hm⟩ := h1; exact DataW.trod_lt m _ _ _ hm
  obtain ⟨z1, w1, x1⟩ := openIvls (hval 1 30 v1 rfl rfl) h1
  have lt2 : ∀ x ∈ p2, x.block < W.heap.size := by obtain ⟨m, hm⟩ := h2; exact DataW.trod_lt m _ _ _ hm
  obtain ⟨z2, w2, x2⟩ := open_i Try.underlying3 (hval 2 3 v2 rfl rfl) h2
  clear hA0 hval0
  refine Calls.mono (law_calls law_h (z0, z1, z2) trivial rfl (vs := [v0, v1, v2]) (replist_mk x0 (replist_mk x1 (replist_mk x2 replist_mk0)))) fun e W' ⟨he, bel⟩ => ?_
  subst he
  exact ⟨_, rfl, _, _, _, [], _, [], hW', trodAll_mk1 (shut_bool Try.underlying4 _), (trodAll_cons_mk (Below.trod laidOut (by kernel_rfl) (of_decide_eq_true (by kernel_rfl)) h0 bel lt0) (trodAll_cons_mk (Below.trod laidOut (by kernel_rfl) (of_decide_eq_true (by kernel_rfl)) h1 bel lt1) (trodAll_cons_mk (Below.trod laidOut (by kernel_rfl) (of_decide_eq_true (by kernel_rfl)) h2 bel lt2) trodAll_mk0))), rfl, bel.frame _, fun h => by cases h⟩

theorem over : Rows.clockMinusRow.holds Try.pinned (OpenSpec.ofChange Rows.clockMinusSpec) :=
  OpenClaim.holds_of_wide 10 Try.f10 rfl rfl rfl rfl rfl rfl rfl ⟨rfl, rfl, rfl, rfl, rfl⟩ rfl rfl rfl rfl rfl (by kernel_rfl) Try.func10 (by kernel_rfl)
    (of_decide_eq_true (by kernel_rfl)) (by unfold Func.isWrapper; first | (rw [if_pos (by decide +kernel)]; kernel_rfl) | (rw [if_neg (by decide +kernel)]; exact ⟨rfl, rfl⟩))
    (fun os started H enc _ => lifted os started H enc)

theorem proved : Rows.ClockMinusSaid := over
end Go.Proofs.Ytmehmnlhnbeeeaa.lawMinus
