/- ClockFirst: there is no time with In ahead of the result of Next; hours repeat after a week. No condition. -/
import Derived.Test.YtmehmnlhnbeeeaaArg
import Derived.Test.YtmehmnlhnbeeeaaP6
namespace Go.Proofs.Ytmehmnlhnbeeeaa.lawFirst
open Go.ChangeShapes Go.WideShapes Go.ChangeAt Go.RowKit Go.Deep Go.Joins
set_option linter.unusedVariables false

/-! skiarea/skiarealaw02.ClockFirst -/
def lawIr : IFn := ⟨104, [.tmp 6],
  (.seq (.ops [
    ⟨(some 6), .mov, [.const (.bool false)], none⟩] false)
  (.seq (.seq (.ops [
    ⟨(some 9), .call 11, [], none⟩,
    ⟨(some 10), .not, [.tmp 9], none⟩] false)
  (.cond (.tmp 10)
    (.seq (.ops [
      ⟨(some 6), .mov, [.const (.bool false)], none⟩] false)
    .ret)
    .skip))
  (.seq (.seq (.ops [
    ⟨(some 11), .mov, [.tmp 0], none⟩,
    ⟨(some 12), .len, [.tmp 11], none⟩,
    ⟨(some 13), .cmp .gtr, [.tmp 12, .const (.int .i64 100)], none⟩] false)
  (.cond (.tmp 13)
    (.seq (.ops [
      ⟨(some 6), .mov, [.const (.bool true)], none⟩] false)
    .ret)
    .skip))
  (.seq (.ops [
    ⟨(some 15), .mov, [.tmp 0], none⟩,
    ⟨(some 16), .mov, [.tmp 1], none⟩,
    ⟨(some 17), .call 22, [.tmp 15, .tmp 16], none⟩,
    ⟨(some 14), .mov, [.tmp 17], none⟩,
    ⟨(some 18), .extract 0, [.tmp 14], none⟩,
    ⟨(some 19), .extract 1, [.tmp 14], none⟩,
    ⟨(some 7), .mov, [.tmp 18], none⟩,
    ⟨(some 8), .mov, [.tmp 19], none⟩] false)
  (.seq (.seq (.ops [
    ⟨(some 20), .mov, [.tmp 8], none⟩,
    ⟨(some 21), .mov, [.tmp 20], none⟩,
    ⟨(some 22), .mov, [.tmp 7], (some (21, true))⟩,
    ⟨(some 23), .mov, [.tmp 1], (some (21, true))⟩,
    ⟨(some 24), .cmp .lss, [.tmp 22, .tmp 23], (some (21, true))⟩,
    ⟨(some 25), .mov, [.tmp 24], (some (21, true))⟩,
    ⟨(some 26), .mov, [.tmp 7], (some (25, false))⟩,
    ⟨(some 27), .cmp .lss, [.tmp 26, .const (.int .i64 0)], (some (25, false))⟩,
    ⟨(some 28), .pick, [.tmp 25, .const (.bool true), .tmp 27], (some (21, true))⟩,
    ⟨(some 29), .mov, [.tmp 28], (some (21, true))⟩,
    ⟨(some 30), .mov, [.tmp 0], (some (29, false))⟩,
    ⟨(some 31), .mov, [.tmp 7], (some (29, false))⟩,
    ⟨(some 32), .call 20, [.tmp 30, .tmp 31], (some (29, false))⟩,
    ⟨(some 33), .not, [.tmp 32], (some (29, false))⟩,
    ⟨(some 34), .pick, [.tmp 29, .const (.bool true), .tmp 33], (some (21, true))⟩,
    ⟨(some 35), .pick, [.tmp 21, .tmp 34, .const (.bool false)], none⟩,
    ⟨(some 36), .mov, [.tmp 35], none⟩,
    ⟨(some 37), .mov, [.tmp 8], (some (36, false))⟩,
    ⟨(some 38), .not, [.tmp 37], (some (36, false))⟩,
    ⟨(some 39), .mov, [.tmp 38], (some (36, false))⟩,
    ⟨(some 40), .mov, [.tmp 7], (some (39, true))⟩,
    ⟨(some 41), .cmp .neq, [.tmp 40, .const (.int .i64 0)], (some (39, true))⟩,
    ⟨(some 42), .pick, [.tmp 39, .tmp 41, .const (.bool false)], (some (36, false))⟩,
    ⟨(some 43), .pick, [.tmp 36, .const (.bool true), .tmp 42], none⟩,
    ⟨(some 44), .mov, [.tmp 43], none⟩,
    ⟨(some 45), .mov, [.tmp 2], (some (44, false))⟩,
    ⟨(some 46), .mov, [.tmp 1], (some (44, false))⟩,
    ⟨(some 47), .cmp .geq, [.tmp 45, .tmp 46], (some (44, false))⟩,
    ⟨(some 48), .mov, [.tmp 47], (some (44, false))⟩,
    ⟨(some 49), .mov, [.tmp 8], (some (48, true))⟩,
    ⟨(some 50), .not, [.tmp 49], (some (48, true))⟩,
    ⟨(some 51), .mov, [.tmp 50], (some (48, true))⟩,
    ⟨(some 52), .mov, [.tmp 2], (some (51, false))⟩,
    ⟨(some 53), .mov, [.tmp 7], (some (51, false))⟩,
    ⟨(some 54), .cmp .lss, [.tmp 52, .tmp 53], (some (51, false))⟩,
    ⟨(some 55), .pick, [.tmp 51, .const (.bool true), .tmp 54], (some (48, true))⟩,
    ⟨(some 56), .pick, [.tmp 48, .tmp 55, .const (.bool false)], (some (44, false))⟩,
    ⟨(some 57), .mov, [.tmp 56], (some (44, false))⟩,
    ⟨(some 58), .mov, [.tmp 0], (some (57, true))⟩,
    ⟨(some 59), .mov, [.tmp 2], (some (57, true))⟩,
    ⟨(some 60), .call 20, [.tmp 58, .tmp 59], (some (57, true))⟩,
    ⟨(some 61), .pick, [.tmp 57, .tmp 60, .const (.bool false)], (some (44, false))⟩,
    ⟨(some 62), .pick, [.tmp 44, .const (.bool true), .tmp 61], none⟩] false)
  (.cond (.tmp 62)
    (.seq (.ops [
      ⟨(some 6), .mov, [.const (.bool false)], none⟩] false)
    .ret)
    .skip))
  (.seq (.seq (.ops [
    ⟨(some 63), .mov, [.tmp 2], none⟩,
    ⟨(some 64), .cmp .lss, [.tmp 63, .const (.int .i64 0)], none⟩,
    ⟨(some 65), .mov, [.tmp 64], none⟩,
    ⟨(some 66), .mov, [.tmp 2], (some (65, false))⟩,
    ⟨(some 67), .cmp .gtr, [.tmp 66, .const (.int .i64 19395200)], (some (65, false))⟩,
    ⟨(some 68), .pick, [.tmp 65, .const (.bool true), .tmp 67], none⟩] false)
  (.cond (.tmp 68)
    (.seq (.ops [
      ⟨(some 6), .mov, [.const (.bool true)], none⟩] false)
    .ret)
    .skip))
  (.seq (.ops [
    ⟨(some 69), .mov, [.tmp 0], none⟩,
    ⟨(some 70), .mov, [.tmp 2], none⟩,
    ⟨(some 71), .call 20, [.tmp 69, .tmp 70], none⟩,
    ⟨(some 72), .mov, [.tmp 0], none⟩,
    ⟨(some 73), .mov, [.tmp 2], none⟩,
    ⟨(some 74), .bin .add .i64 false, [.tmp 73, .const (.int .i64 604800)], none⟩,
    ⟨(some 75), .call 20, [.tmp 72, .tmp 74], none⟩,
    ⟨(some 76), .eqb false, [.tmp 71, .tmp 75], none⟩,
    ⟨(some 77), .mov, [.tmp 76], none⟩,
    ⟨(some 78), .mov, [.tmp 2], (some (77, true))⟩,
    ⟨(some 79), .call 16, [.tmp 78], (some (77, true))⟩,
    ⟨(some 80), .mov, [.tmp 2], (some (77, true))⟩,
    ⟨(some 81), .bin .add .i64 false, [.tmp 80, .const (.int .i64 604800)], (some (77, true))⟩,
    ⟨(some 82), .call 16, [.tmp 81], (some (77, true))⟩,
    ⟨(some 83), .cmp .eql, [.tmp 79, .tmp 82], (some (77, true))⟩,
    ⟨(some 84), .pick, [.tmp 77, .tmp 83, .const (.bool false)], none⟩,
    ⟨(some 85), .mov, [.tmp 84], none⟩,
    ⟨(some 86), .mov, [.tmp 2], (some (85, true))⟩,
    ⟨(some 87), .bin .add .i64 false, [.tmp 86, .const (.int .i64 604800)], (some (85, true))⟩,
    ⟨(some 88), .call 12, [.tmp 87], (some (85, true))⟩,
    ⟨(some 89), .mov, [.tmp 2], (some (85, true))⟩,
    ⟨(some 90), .call 12, [.tmp 89], (some (85, true))⟩,
    ⟨(some 91), .bin .add .i64 false, [.tmp 90, .const (.int .i64 7)], (some (85, true))⟩,
    ⟨(some 92), .cmp .eql, [.tmp 88, .tmp 91], (some (85, true))⟩,
    ⟨(some 93), .pick, [.tmp 85, .tmp 92, .const (.bool false)], none⟩,
    ⟨(some 94), .mov, [.tmp 93], none⟩,
    ⟨(some 95), .mov, [.tmp 2], (some (94, true))⟩,
    ⟨(some 96), .call 12, [.tmp 95], (some (94, true))⟩,
    ⟨(some 97), .bin .mul .i64 false, [.tmp 96, .const (.int .i64 86400)], (some (94, true))⟩,
    ⟨(some 98), .mov, [.tmp 2], (some (94, true))⟩,
    ⟨(some 99), .call 14, [.tmp 98], (some (94, true))⟩,
    ⟨(some 100), .bin .add .i64 false, [.tmp 97, .tmp 99], (some (94, true))⟩,
    ⟨(some 101), .mov, [.tmp 2], (some (94, true))⟩,
    ⟨(some 102), .cmp .eql, [.tmp 100, .tmp 101], (some (94, true))⟩,
    ⟨(some 103), .pick, [.tmp 94, .tmp 102, .const (.bool false)], none⟩,
    ⟨(some 6), .mov, [.tmp 103], none⟩] false)
  .ret)))))))⟩
theorem lawLow : lowF Try.prog {} Try.f8 = some lawIr := by kernel_rfl
def lawS : Spec := spec (List Hours × Int × Int) (fun p => [L 3 (p.1.map encH), I p.2.1, I p.2.2]) (fun _ => True) (fun _ => B true)
set_option maxHeartbeats 2000000 in
theorem lawV : fnV Try.prog lawIr lawS := by
  intro ⟨(l : List Hours), (t : Int), (u : Int)⟩ _
  show vc _ _ _ ⟨argEnv 0 [L 3 (l.map encH), I t, I u], [], 0⟩
  have hl : (l.map encH).length = l.length := List.length_map ..
  by_cases h100 : 100 < l.length
  · repeat' ((conv => whnf); first | (refine ⟨fun h => ?_, fun h => ?_⟩ <;> try (exfalso; first | omega | exact absurd h (by decide) | exact h rfl)) | (refine ⟨_, alive_h, (), trivial, leVs_of_eq rfl, .inl rfl, rfl, ?_⟩; show norm (B true) _) | exact ⟨[], rfl, trivial, rfl⟩ | fail)
  · have pl : l.length ≤ 1000000 := by omega
    have pl2 : l.length ≤ 9223372036854775807 := by omega
    have hwk : 0 ≤ u → u ≤ 19395200 → decide (inP l (u + 604800)) = decide (inP l u) := fun h1 h2 => by rw [decide_eq_decide]; exact in_week h1 (by omega)
    have hd1 : 0 ≤ u → u ≤ 19395200 → dayF u = u / 86400 := fun h1 h2 => day_eq ⟨h1, by omega⟩
    have hd2 : 0 ≤ u → u ≤ 19395200 → dayF (u + 604800) = (u + 604800) / 86400 := fun h1 h2 => day_eq ⟨by omega, by omega⟩
    have hw1 : 0 ≤ u → u ≤ 19395200 → wdF u = u / 86400 % 7 := fun h1 h2 => wd_eq ⟨h1, by omega⟩
    have hw2 : 0 ≤ u → u ≤ 19395200 → wdF (u + 604800) = (u + 604800) / 86400 % 7 := fun h1 h2 => wd_eq ⟨by omega, by omega⟩
    have hs1 : 0 ≤ u → u ≤ 19395200 → secF u = u % 86400 := fun h1 h2 => sec_eq ⟨h1, by omega⟩
    rcases next_cases l t with ⟨n, hn, hn1, hn2, hno⟩ | ⟨hn, hno⟩
    · have eN : SV.tup [I (nextR l t).1, B (nextR l t).2] = .tup [I n, B true] := by rw [hn]
      have hn0 := hn2.1.1
      have hbn : decide (inP l n) = true := decide_eq_true hn2
      cases hbu : decide (inP l u)
      · repeat' ((conv => whnf); first | (refine ⟨fun h => ?_, fun h => ?_⟩ <;> try (exfalso; first | omega | exact absurd h (by decide) | exact h rfl)) | (refine ⟨_, alive_h, (), trivial, leVs_of_eq rfl, .inl rfl, rfl, ?_⟩; show norm (B true) _) | (refine ⟨_, next_h, (l, t), pl, leVs_of_eq rfl, .inl rfl, rfl, ?_⟩; show norm (.tup [I (nextR l t).1, B (nextR l t).2]) _; rw [eN]) | (refine ⟨_, inn_h, (l, (n : Int)), pl2, leVs_of_eq rfl, .inl rfl, rfl, ?_⟩; show norm (B (decide (inP l (n)))) _; rw [hbn]) | (refine ⟨_, inn_h, (l, (u : Int)), pl2, leVs_of_eq rfl, .inl rfl, rfl, ?_⟩; show norm (B (decide (inP l (u)))) _; rw [hbu]) | (refine ⟨_, inn_h, (l, (u + 604800 : Int)), pl2, leVs_of_eq rfl, .inl rfl, rfl, ?_⟩; show norm (B (decide (inP l (u + 604800)))) _; rw [hwk (by omega) (by omega), hbu]) | (refine ⟨_, day_h, u, trivial, leVs_of_eq rfl, .inl rfl, rfl, ?_⟩; show norm (I (dayF u)) _; rw [hd1 (by omega) (by omega)]) | (refine ⟨_, day_h, (u + 604800 : Int), trivial, leVs_of_eq rfl, .inl rfl, rfl, ?_⟩; show norm (I (dayF (u + 604800))) _; rw [hd2 (by omega) (by omega)]) | (refine ⟨_, wd_h, u, trivial, leVs_of_eq rfl, .inl rfl, rfl, ?_⟩; show norm (I (wdF u)) _; rw [hw1 (by omega) (by omega)]) | (refine ⟨_, wd_h, (u + 604800 : Int), trivial, leVs_of_eq rfl, .inl rfl, rfl, ?_⟩; show norm (I (wdF (u + 604800))) _; rw [hw2 (by omega) (by omega)]) | (refine ⟨_, sec_h, u, trivial, leVs_of_eq rfl, .inl rfl, rfl, ?_⟩; show norm (I (secF u)) _; rw [hs1 (by omega) (by omega)]) | refine ⟨⟨by omega, by omega⟩, ?_⟩ | exact ⟨[], rfl, trivial, rfl⟩ | fail)
      · have hnn : ¬ (t ≤ u ∧ u < n) := fun ⟨a, b⟩ => hno u a b (of_decide_eq_true hbu)
        repeat' ((conv => whnf); first | (refine ⟨fun h => ?_, fun h => ?_⟩ <;> try (exfalso; first | omega | exact absurd h (by decide) | exact h rfl)) | (refine ⟨_, alive_h, (), trivial, leVs_of_eq rfl, .inl rfl, rfl, ?_⟩; show norm (B true) _) | (refine ⟨_, next_h, (l, t), pl, leVs_of_eq rfl, .inl rfl, rfl, ?_⟩; show norm (.tup [I (nextR l t).1, B (nextR l t).2]) _; rw [eN]) | (refine ⟨_, inn_h, (l, (n : Int)), pl2, leVs_of_eq rfl, .inl rfl, rfl, ?_⟩; show norm (B (decide (inP l (n)))) _; rw [hbn]) | (refine ⟨_, inn_h, (l, (u : Int)), pl2, leVs_of_eq rfl, .inl rfl, rfl, ?_⟩; show norm (B (decide (inP l (u)))) _; rw [hbu]) | (refine ⟨_, inn_h, (l, (u + 604800 : Int)), pl2, leVs_of_eq rfl, .inl rfl, rfl, ?_⟩; show norm (B (decide (inP l (u + 604800)))) _; rw [hwk (by omega) (by omega), hbu]) | (refine ⟨_, day_h, u, trivial, leVs_of_eq rfl, .inl rfl, rfl, ?_⟩; show norm (I (dayF u)) _; rw [hd1 (by omega) (by omega)]) | (refine ⟨_, day_h, (u + 604800 : Int), trivial, leVs_of_eq rfl, .inl rfl, rfl, ?_⟩; show norm (I (dayF (u + 604800))) _; rw [hd2 (by omega) (by omega)]) | (refine ⟨_, wd_h, u, trivial, leVs_of_eq rfl, .inl rfl, rfl, ?_⟩; show norm (I (wdF u)) _; rw [hw1 (by omega) (by omega)]) | (refine ⟨_, wd_h, (u + 604800 : Int), trivial, leVs_of_eq rfl, .inl rfl, rfl, ?_⟩; show norm (I (wdF (u + 604800))) _; rw [hw2 (by omega) (by omega)]) | (refine ⟨_, sec_h, u, trivial, leVs_of_eq rfl, .inl rfl, rfl, ?_⟩; show norm (I (secF u)) _; rw [hs1 (by omega) (by omega)]) | refine ⟨⟨by omega, by omega⟩, ?_⟩ | exact ⟨[], rfl, trivial, rfl⟩ | fail)
    · have eN : SV.tup [I (nextR l t).1, B (nextR l t).2] = .tup [I 0, B false] := by rw [hn]
      cases hbu : decide (inP l u)
      · repeat' ((conv => whnf); first | (refine ⟨fun h => ?_, fun h => ?_⟩ <;> try (exfalso; first | omega | exact absurd h (by decide) | exact h rfl)) | (refine ⟨_, alive_h, (), trivial, leVs_of_eq rfl, .inl rfl, rfl, ?_⟩; show norm (B true) _) | (refine ⟨_, next_h, (l, t), pl, leVs_of_eq rfl, .inl rfl, rfl, ?_⟩; show norm (.tup [I (nextR l t).1, B (nextR l t).2]) _; rw [eN]) | (refine ⟨_, inn_h, (l, (u : Int)), pl2, leVs_of_eq rfl, .inl rfl, rfl, ?_⟩; show norm (B (decide (inP l (u)))) _; rw [hbu]) | (refine ⟨_, inn_h, (l, (u + 604800 : Int)), pl2, leVs_of_eq rfl, .inl rfl, rfl, ?_⟩; show norm (B (decide (inP l (u + 604800)))) _; rw [hwk (by omega) (by omega), hbu]) | (refine ⟨_, day_h, u, trivial, leVs_of_eq rfl, .inl rfl, rfl, ?_⟩; show norm (I (dayF u)) _; rw [hd1 (by omega) (by omega)]) | (refine ⟨_, day_h, (u + 604800 : Int), trivial, leVs_of_eq rfl, .inl rfl, rfl, ?_⟩; show norm (I (dayF (u + 604800))) _; rw [hd2 (by omega) (by omega)]) | (refine ⟨_, wd_h, u, trivial, leVs_of_eq rfl, .inl rfl, rfl, ?_⟩; show norm (I (wdF u)) _; rw [hw1 (by omega) (by omega)]) | (refine ⟨_, wd_h, (u + 604800 : Int), trivial, leVs_of_eq rfl, .inl rfl, rfl, ?_⟩; show norm (I (wdF (u + 604800))) _; rw [hw2 (by omega) (by omega)]) | (refine ⟨_, sec_h, u, trivial, leVs_of_eq rfl, .inl rfl, rfl, ?_⟩; show norm (I (secF u)) _; rw [hs1 (by omega) (by omega)]) | refine ⟨⟨by omega, by omega⟩, ?_⟩ | exact ⟨[], rfl, trivial, rfl⟩ | fail)
      · have hnn : ¬ t ≤ u := fun a => hno u a (of_decide_eq_true hbu)
        repeat' ((conv => whnf); first | (refine ⟨fun h => ?_, fun h => ?_⟩ <;> try (exfalso; first | omega | exact absurd h (by decide) | exact h rfl)) | (refine ⟨_, alive_h, (), trivial, leVs_of_eq rfl, .inl rfl, rfl, ?_⟩; show norm (B true) _) | (refine ⟨_, next_h, (l, t), pl, leVs_of_eq rfl, .inl rfl, rfl, ?_⟩; show norm (.tup [I (nextR l t).1, B (nextR l t).2]) _; rw [eN]) | (refine ⟨_, inn_h, (l, (u : Int)), pl2, leVs_of_eq rfl, .inl rfl, rfl, ?_⟩; show norm (B (decide (inP l (u)))) _; rw [hbu]) | (refine ⟨_, inn_h, (l, (u + 604800 : Int)), pl2, leVs_of_eq rfl, .inl rfl, rfl, ?_⟩; show norm (B (decide (inP l (u + 604800)))) _; rw [hwk (by omega) (by omega), hbu]) | (refine ⟨_, day_h, u, trivial, leVs_of_eq rfl, .inl rfl, rfl, ?_⟩; show norm (I (dayF u)) _; rw [hd1 (by omega) (by omega)]) | (refine ⟨_, day_h, (u + 604800 : Int), trivial, leVs_of_eq rfl, .inl rfl, rfl, ?_⟩; show norm (I (dayF (u + 604800))) _; rw [hd2 (by omega) (by omega)]) | (refine ⟨_, wd_h, u, trivial, leVs_of_eq rfl, .inl rfl, rfl, ?_⟩; show norm (I (wdF u)) _; rw [hw1 (by omega) (by omega)]) | (refine ⟨_, wd_h, (u + 604800 : Int), trivial, leVs_of_eq rfl, .inl rfl, rfl, ?_⟩; show norm (I (wdF (u + 604800))) _; rw [hw2 (by omega) (by omega)]) | (refine ⟨_, sec_h, u, trivial, leVs_of_eq rfl, .inl rfl, rfl, ?_⟩; show norm (I (secF u)) _; rw [hs1 (by omega) (by omega)]) | refine ⟨⟨by omega, by omega⟩, ?_⟩ | exact ⟨[], rfl, trivial, rfl⟩ | fail)
theorem law_h : Holds Try.prog 8 lawS := holds_of mix Try.func8 lawLow (fun _ => rfl) lawV

/-! ### THE ROW's STEP -/
theorem own : ownKnob Try.prog.godebug = none := by kernel_rfl
theorem laidOut : laidOutB Try.prog = true := by kernel_rfl
set_option maxRecDepth 100000 in
theorem lifted (os : Os) (started : os.Started) (H : Type) (enc : TypeId × Value → H) :
    ReturnsInHanded {} Try.checked os 8 .any (Rows.clockFirstSpec.pre6 enc Try.prog Try.f8 Rows.clockFirstRow.domain false) (Rows.clockFirstSpec.post enc Try.prog Try.f8 false true false false) := by
  refine returnsInHanded_of_change (C := Try.checked) own started (by kernel_rfl) Try.func8
    (ChangeSpec.witness6 (enc := enc) (C := Try.checked) false ⟨#[], #[.slice none 0 0, .int .i64 0, .int .i64 0], []⟩ 8 (by kernel_rfl) (by kernel_rfl) (by kernel_rfl) (by kernel_rfl)) ?_
  intro W base args ds gs before hval0 hW hcnd _
  have hval : ∀ (j : Nat) t v, Try.f8.params[j]? = some t → args[j]? = some v → Value.okWide Try.prog W .any base t v := hval0
  have hW' := hW
  obtain ⟨p, q, hA0, hV, rfl, hfz, hnd⟩ := hW
  have hA : DataW.TrodAll enc Try.prog W 0 (fun _ => true) true Try.f8.params.toList args.toList ds p := hA0
  rw [Try.params8] at hA hval
  obtain ⟨v0, vs0, d0, ds0, p0, q0, hargs, rfl, rfl, h0, r0⟩ := trodAll_cons hA
  obtain ⟨v1, vs1, d1, ds1, p1, q1, rfl, rfl, rfl, h1, r1⟩ := trodAll_cons r0
  obtain ⟨v2, vs2, d2, ds2, p2, q2, rfl, rfl, rfl, h2, r2⟩ := trodAll_cons r1
  obtain ⟨rfl, rfl, rfl⟩ := trodAll_nil r2
  obtain rfl : args = #[v0, v1, v2] := by cases args; simp_all
  obtain ⟨rfl, rfl⟩ := trodVars_none hV
  have lt0 : ∀ x ∈ p0, x.block < W.heap.size := by obtain ⟨m, hm⟩ := h0; exact DataW.trod_lt m _ _ _ hm
  obtain ⟨z0, w0, x0⟩ := openHours (hval 0 25 v0 rfl rfl) h0
  have lt1 : ∀ x ∈ p1, x.block < W.heap.size := by obtain ⟨m, hm⟩ := h1; exact DataW.trod_lt m _ _ _ hm
  obtain ⟨z1, w1, x1⟩ := open_i Try.underlying3 (hval 1 3 v1 rfl rfl) h1
  have lt2 : ∀ x ∈ p2, x.block < W.heap.size := by obtain ⟨m, hm⟩ := h2; exact DataW.trod_lt m _ _ _ hm
  obtain ⟨z2, w2, x2⟩ := open_i Try.underlying3 (hval 2 3 v2 rfl rfl) h2
  clear hA0 hval0
  refine Calls.mono (law_calls law_h (z0, z1, z2) trivial rfl (vs := [v0, v1, v2]) (replist_mk x0 (replist_mk x1 (replist_mk x2 replist_mk0)))) fun e W' ⟨he, bel⟩ => ?_
  subst he
  exact ⟨_, rfl, _, _, _, [], _, [], hW', trodAll_mk1 (shut_bool Try.underlying4 _), (trodAll_cons_mk (Below.trod laidOut (by kernel_rfl) (of_decide_eq_true (by kernel_rfl)) h0 bel lt0) (trodAll_cons_mk (Below.trod laidOut (by kernel_rfl) (of_decide_eq_true (by kernel_rfl)) h1 bel lt1) (trodAll_cons_mk (Below.trod laidOut (by kernel_rfl) (of_decide_eq_true (by kernel_rfl)) h2 bel lt2) trodAll_mk0))), rfl, bel.frame _, fun h => by cases h⟩

theorem over : Rows.clockFirstRow.holds Try.pinned (OpenSpec.ofChange Rows.clockFirstSpec) :=
  OpenClaim.holds_of_wide 8 Try.f8 rfl rfl rfl rfl rfl rfl rfl ⟨rfl, rfl, rfl, rfl, rfl⟩ rfl rfl rfl rfl rfl (by kernel_rfl) Try.func8 (by kernel_rfl)
    (of_decide_eq_true (by kernel_rfl)) (by unfold Func.isWrapper; first | (rw [if_pos (by decide +kernel)]; kernel_rfl) | (rw [if_neg (by decide +kernel)]; exact ⟨rfl, rfl⟩))
    (fun os started H enc _ => lifted os started H enc)

theorem proved : Rows.ClockFirstSaid := over
end Go.Proofs.Ytmehmnlhnbeeeaa.lawFirst
