/- IncidentTeams: a team has one incident at a time, after at most 40 calls, and the plan has the shortest ways in all. No condition. -/
import Derived.Test.YtoeichkblclfaaaArg
import Derived.Test.YtoeichkblclfaaaO3
namespace Go.Proofs.Ytoeichkblclfaaa.lawTeams
open Go.ChangeShapes Go.WideShapes Go.ChangeAt Go.RowKit Go.Deep Go.Joins
set_option linter.unusedVariables false
set_option maxRecDepth 20000

/-! skiarea/skiarealaw57.IncidentTeams -/
def lawIr : IFn := ⟨126, [.tmp 6],
  (.seq (.ops [
    ⟨(some 3), .box, [.tmp 0], none⟩,
    ⟨(some 6), .mov, [.const (.bool false)], none⟩] false)
  (.seq (.seq (.ops [
    ⟨(some 17), .call 9, [], none⟩,
    ⟨(some 18), .not, [.tmp 17], none⟩] false)
  (.cond (.tmp 18)
    (.seq (.ops [
      ⟨(some 6), .mov, [.const (.bool false)], none⟩] false)
    .ret)
    .skip))
  (.seq (.seq (.ops [
    ⟨(some 19), .faddr 4, [.tmp 3], none⟩,
    ⟨(some 20), .load 1 false, [.tmp 19], none⟩,
    ⟨(some 21), .call 12, [.tmp 20], none⟩,
    ⟨(some 22), .not, [.tmp 21], none⟩,
    ⟨(some 23), .mov, [.tmp 22], none⟩,
    ⟨(some 24), .mov, [.tmp 1], (some (23, false))⟩,
    ⟨(some 25), .len, [.tmp 24], (some (23, false))⟩,
    ⟨(some 26), .cmp .gtr, [.tmp 25, .const (.int .i64 40)], (some (23, false))⟩,
    ⟨(some 27), .pick, [.tmp 23, .const (.bool true), .tmp 26], none⟩,
    ⟨(some 28), .mov, [.tmp 27], none⟩,
    ⟨(some 29), .faddr 5, [.tmp 3], (some (28, false))⟩,
    ⟨(some 30), .load 1 false, [.tmp 29], (some (28, false))⟩,
    ⟨(some 31), .len, [.tmp 30], (some (28, false))⟩,
    ⟨(some 32), .cmp .gtr, [.tmp 31, .const (.int .i64 8)], (some (28, false))⟩,
    ⟨(some 33), .pick, [.tmp 28, .const (.bool true), .tmp 32], none⟩,
    ⟨(some 34), .mov, [.tmp 33], none⟩,
    ⟨(some 35), .faddr 0, [.tmp 3], (some (34, false))⟩,
    ⟨(some 36), .load 4 true, [.tmp 35], (some (34, false))⟩,
    ⟨(some 37), .call 20, [.tmp 36], (some (34, false))⟩,
    ⟨(some 38), .cmp .neq, [.tmp 37, .const (.int .i64 0)], (some (34, false))⟩,
    ⟨(some 39), .pick, [.tmp 34, .const (.bool true), .tmp 38], none⟩] false)
  (.cond (.tmp 39)
    (.seq (.ops [
      ⟨(some 6), .mov, [.const (.bool true)], none⟩] false)
    .ret)
    .skip))
  (.seq (.seq (.ops [
    ⟨(some 7), .mov, [.const (.int .i64 0)], none⟩] false)
  (.block 0
    (.loop
      (.seq (.seq (.ops [
        ⟨(some 40), .mov, [.tmp 7], none⟩,
        ⟨(some 41), .mov, [.tmp 1], none⟩,
        ⟨(some 42), .len, [.tmp 41], none⟩,
        ⟨(some 43), .cmp .lss, [.tmp 40, .tmp 42], none⟩] false)
      (.cond (.tmp 43)
        .skip
        (.exit 0)))
      (.seq (.block 1
        (.seq (.seq (.ops [
          ⟨(some 47), .faddr 4, [.tmp 3], none⟩,
          ⟨(some 48), .load 1 false, [.tmp 47], none⟩,
          ⟨(some 49), .mov, [.tmp 1], none⟩,
          ⟨(some 50), .mov, [.tmp 7], none⟩,
          ⟨(some 51), .idx 4, [.tmp 49, .tmp 50], none⟩,
          ⟨(some 52), .load 4 true, [.tmp 51], none⟩,
          ⟨(some 53), .call 13, [.tmp 48, .tmp 52], none⟩,
          ⟨(some 46), .mov, [.tmp 53], none⟩,
          ⟨(some 54), .extract 0, [.tmp 46], none⟩,
          ⟨(some 55), .extract 1, [.tmp 46], none⟩,
          ⟨(some 8), .mov, [.tmp 54], none⟩,
          ⟨(some 9), .mov, [.tmp 55], none⟩] true)
        (.seq (.ops [
          ⟨(some 56), .mov, [.tmp 9], none⟩,
          ⟨(some 57), .cmp .eql, [.tmp 56, .const (.int .i64 0)], none⟩] false)
        (.cond (.tmp 57)
          (.ops [
            ⟨(some 58), .mov, [.tmp 8], none⟩,
            ⟨(some 59), .faddr 4, [.tmp 3], none⟩,
            ⟨none, .store 1, [.tmp 59, .tmp 58], none⟩] false)
          .skip)))
        (.seq (.ops [
          ⟨(some 60), .faddr 4, [.tmp 3], none⟩,
          ⟨(some 61), .load 1 false, [.tmp 60], none⟩,
          ⟨(some 62), .call 10, [.tmp 61], none⟩,
          ⟨(some 63), .cmp .neq, [.tmp 62, .const (.int .i64 0)], none⟩,
          ⟨(some 64), .mov, [.tmp 63], none⟩,
          ⟨(some 65), .faddr 4, [.tmp 3], (some (64, false))⟩,
          ⟨(some 66), .load 1 false, [.tmp 65], (some (64, false))⟩,
          ⟨(some 67), .call 11, [.tmp 66], (some (64, false))⟩,
          ⟨(some 68), .cmp .neq, [.tmp 67, .const (.int .i64 0)], (some (64, false))⟩,
          ⟨(some 69), .pick, [.tmp 64, .const (.bool true), .tmp 68], none⟩] false)
        (.cond (.tmp 69)
          (.seq (.ops [
            ⟨(some 6), .mov, [.const (.bool false)], none⟩] false)
          .ret)
          .skip))))
      (.ops [
        ⟨(some 44), .mov, [.tmp 7], none⟩,
        ⟨(some 45), .bin .add .i64 false, [.tmp 44, .const (.int .i64 1)], none⟩,
        ⟨(some 7), .mov, [.tmp 45], none⟩] false))))))
  (.seq (.ops [
    ⟨(some 70), .faddr 4, [.tmp 3], none⟩,
    ⟨(some 71), .load 1 false, [.tmp 70], none⟩,
    ⟨(some 72), .call 18, [.tmp 71], none⟩,
    ⟨(some 10), .mov, [.tmp 72], none⟩] false)
  (.seq (.ops [
    ⟨(some 74), .faddr 0, [.tmp 3], none⟩,
    ⟨(some 75), .load 4 true, [.tmp 74], none⟩,
    ⟨(some 76), .faddr 4, [.tmp 3], none⟩,
    ⟨(some 77), .load 1 false, [.tmp 76], none⟩,
    ⟨(some 78), .faddr 5, [.tmp 3], none⟩,
    ⟨(some 79), .load 1 false, [.tmp 78], none⟩,
    ⟨(some 80), .call 21, [.tmp 75, .tmp 77, .tmp 79], none⟩,
    ⟨(some 73), .mov, [.tmp 80], none⟩,
    ⟨(some 81), .extract 0, [.tmp 73], none⟩,
    ⟨(some 82), .extract 1, [.tmp 73], none⟩,
    ⟨(some 11), .mov, [.tmp 81], none⟩,
    ⟨(some 12), .mov, [.tmp 82], none⟩] false)
  (.seq (.ops [
    ⟨(some 84), .load 6 true, [.tmp 3], none⟩,
    ⟨(some 85), .mov, [.tmp 10], none⟩,
    ⟨(some 86), .mov, [.tmp 11], none⟩,
    ⟨(some 87), .call 23, [.tmp 84, .tmp 85, .tmp 86], none⟩,
    ⟨(some 83), .mov, [.tmp 87], none⟩,
    ⟨(some 88), .extract 0, [.tmp 83], none⟩,
    ⟨(some 89), .extract 1, [.tmp 83], none⟩,
    ⟨(some 13), .mov, [.tmp 88], none⟩,
    ⟨(some 14), .mov, [.tmp 89], none⟩] false)
  (.seq (.seq (.ops [
    ⟨(some 90), .mov, [.tmp 12], none⟩,
    ⟨(some 91), .cmp .neq, [.tmp 90, .const (.int .i64 0)], none⟩,
    ⟨(some 92), .mov, [.tmp 91], none⟩,
    ⟨(some 93), .mov, [.tmp 14], (some (92, false))⟩,
    ⟨(some 94), .not, [.tmp 93], (some (92, false))⟩,
    ⟨(some 95), .pick, [.tmp 92, .const (.bool true), .tmp 94], none⟩,
    ⟨(some 96), .mov, [.tmp 95], none⟩,
    ⟨(some 97), .mov, [.tmp 11], (some (96, false))⟩,
    ⟨(some 98), .len, [.tmp 97], (some (96, false))⟩,
    ⟨(some 99), .mov, [.tmp 10], (some (96, false))⟩,
    ⟨(some 100), .len, [.tmp 99], (some (96, false))⟩,
    ⟨(some 101), .faddr 5, [.tmp 3], (some (96, false))⟩,
    ⟨(some 102), .load 1 false, [.tmp 101], (some (96, false))⟩,
    ⟨(some 103), .len, [.tmp 102], (some (96, false))⟩,
    ⟨(some 104), .min, [.tmp 100, .tmp 103], (some (96, false))⟩,
    ⟨(some 105), .cmp .neq, [.tmp 98, .tmp 104], (some (96, false))⟩,
    ⟨(some 106), .pick, [.tmp 96, .const (.bool true), .tmp 105], none⟩] false)
  (.cond (.tmp 106)
    (.seq (.ops [
      ⟨(some 6), .mov, [.const (.bool false)], none⟩] false)
    .ret)
    .skip))
  (.seq (.seq (.ops [
    ⟨(some 107), .mov, [.tmp 2], none⟩,
    ⟨(some 108), .len, [.tmp 107], none⟩,
    ⟨(some 109), .mov, [.tmp 11], none⟩,
    ⟨(some 110), .len, [.tmp 109], none⟩,
    ⟨(some 111), .cmp .neq, [.tmp 108, .tmp 110], none⟩] false)
  (.cond (.tmp 111)
    (.seq (.ops [
      ⟨(some 6), .mov, [.const (.bool true)], none⟩] false)
    .ret)
    .skip))
  (.seq (.ops [
    ⟨(some 113), .load 6 true, [.tmp 3], none⟩,
    ⟨(some 114), .mov, [.tmp 10], none⟩,
    ⟨(some 115), .mov, [.tmp 2], none⟩,
    ⟨(some 116), .call 23, [.tmp 113, .tmp 114, .tmp 115], none⟩,
    ⟨(some 112), .mov, [.tmp 116], none⟩,
    ⟨(some 117), .extract 0, [.tmp 112], none⟩,
    ⟨(some 118), .extract 1, [.tmp 112], none⟩,
    ⟨(some 15), .mov, [.tmp 117], none⟩,
    ⟨(some 16), .mov, [.tmp 118], none⟩] false)
  (.seq (.ops [
    ⟨(some 119), .mov, [.tmp 16], none⟩,
    ⟨(some 120), .not, [.tmp 119], none⟩,
    ⟨(some 121), .mov, [.tmp 120], none⟩,
    ⟨(some 122), .mov, [.tmp 13], (some (121, false))⟩,
    ⟨(some 123), .mov, [.tmp 15], (some (121, false))⟩,
    ⟨(some 124), .cmp .leq, [.tmp 122, .tmp 123], (some (121, false))⟩,
    ⟨(some 125), .pick, [.tmp 121, .const (.bool true), .tmp 124], none⟩,
    ⟨(some 6), .mov, [.tmp 125], none⟩] false)
  .ret)))))))))))⟩
theorem lawLow : lowF Try.prog {} Try.f7 = some lawIr := by kernel_rfl
def lawS : Spec := spec (Scn × List Opr × List Int) (fun p => [aSc p.1, L 4 (p.2.1.map encOp), L 1 (p.2.2.map e1)]) (fun p => okS p.1) (fun _ => B true)
set_option maxHeartbeats 4000000 in
theorem lawV : fnV Try.prog lawIr lawS := by
  intro ⟨⟨(m : Mp), (l : List Inc), (nodes : List Int)⟩, (ops : List Opr), (other : List Int)⟩ hx
  obtain ⟨hm0, hl0, _⟩ : okM m ∧ l.length ≤ 9223372036854775807 ∧ nodes.length ≤ 9223372036854775807 := hx
  have hlo : (ops.map encOp).length = ops.length := List.length_map ..
  have hln : (nodes.map e1).length = nodes.length := List.length_map ..
  have hlt : (other.map e1).length = other.length := List.length_map ..
  show vc _ _ _ _ ⟨argEnv 0 [.agg [L 2 (m.nodes.map encN), L 8 (m.lifts.map encL), L 7 (m.runs.map encU), L 1 (m.bases.map e1), L 6 (l.map encI), L 1 (nodes.map e1)], L 4 (ops.map encOp), L 1 (other.map e1)], [], 0⟩
  by_cases h0 : rightI l = 0
  · by_cases h40 : 40 < ops.length
    · repeat' ((conv => whnf); first | (refine ⟨fun h => ?_, fun h => ?_⟩ <;> try (exfalso; first | omega | exact absurd h (by decide) | exact h rfl | exact absurd (show true = false from h) (by decide) | exact absurd (show false = true from h) (by decide) | exact h ⟨rfl, rfl, rfl, rfl, rfl, rfl, trivial⟩)) | (refine ⟨_, alive_h, (), trivial, leVs_of_eq rfl, .inl rfl, rfl, ?_⟩; show norm (B true) _) | (refine ⟨_, lright_h, l, hl0, leVs_of_eq rfl, .inl rfl, rfl, ?_⟩; show norm (B (decide (rightI l = 0))) _; rw [decide_eq_true h0]) | exact ⟨[], rfl, trivial, rfl⟩ | fail)
    by_cases h8 : 8 < nodes.length
    · repeat' ((conv => whnf); first | (refine ⟨fun h => ?_, fun h => ?_⟩ <;> try (exfalso; first | omega | exact absurd h (by decide) | exact h rfl | exact absurd (show true = false from h) (by decide) | exact absurd (show false = true from h) (by decide) | exact h ⟨rfl, rfl, rfl, rfl, rfl, rfl, trivial⟩)) | (refine ⟨_, alive_h, (), trivial, leVs_of_eq rfl, .inl rfl, rfl, ?_⟩; show norm (B true) _) | (refine ⟨_, lright_h, l, hl0, leVs_of_eq rfl, .inl rfl, rfl, ?_⟩; show norm (B (decide (rightI l = 0))) _; rw [decide_eq_true h0]) | exact ⟨[], rfl, trivial, rfl⟩ | fail)
    obtain ⟨e, hE⟩ : ∃ e, rightM m = e := ⟨_, rfl⟩
    by_cases he : e = 0
    · have hm : MapOk m := mapOk_of (hE.trans he)
      repeat' ((conv => whnf); first | (refine ⟨fun h => ?_, fun h => ?_⟩ <;> try (exfalso; first | omega | exact absurd h (by decide) | exact h rfl | exact absurd (show true = false from h) (by decide) | exact absurd (show false = true from h) (by decide) | exact h ⟨rfl, rfl, rfl, rfl, rfl, rfl, trivial⟩)) | (refine ⟨_, alive_h, (), trivial, leVs_of_eq rfl, .inl rfl, rfl, ?_⟩; show norm (B true) _) | (refine ⟨_, lright_h, l, hl0, leVs_of_eq rfl, .inl rfl, rfl, ?_⟩; show norm (B (decide (rightI l = 0))) _; rw [decide_eq_true h0]) | (refine ⟨_, rrightM_h, m, hm0, leVs_of_eq rfl, .inl rfl, rfl, ?_⟩; show norm (I (rightM m)) _; rw [hE]) | fail | fail)
      refine ⟨Nat × (List Inc), fun xq => ⟨[(1, L 4 (ops.map encOp)), (2, L 1 (other.map e1)), (3, .bp 0 0), (7, I xq.1)], [(0, .box [L 2 (m.nodes.map encN), L 8 (m.lifts.map encL), L 7 (m.runs.map encU), L 1 (m.bases.map e1), L 6 ((xq.2).map encI), L 1 (nodes.map e1)])], 1⟩, fun xq => xq.1 ≤ ops.length ∧ rightI xq.2 = 0, fun xq => ops.length - xq.1, ⟨(0, l), ?_, [], ⟨⟨rfl, rfl⟩, ⟨⟨rfl, rfl⟩, ⟨⟨rfl, rfl⟩, ⟨⟨rfl, rfl⟩, trivial⟩⟩⟩⟩, ⟨⟨rfl, rfl, rfl⟩, trivial⟩, rfl, rfl, rfl⟩, ?_⟩
      · (try dsimp only); exact ⟨Nat.zero_le _, h0⟩
      rintro ⟨i, q⟩ hk
      obtain ⟨hi, hq⟩ : i ≤ ops.length ∧ rightI q = 0 := hk
      (try dsimp only)
      have hql := len_of hq
      by_cases hil : i < ops.length
      · obtain ⟨o, ho⟩ := getElem_some hil
        obtain ⟨⟨x, e⟩, hA⟩ : ∃ r, actF q o = r := ⟨_, rfl⟩
        by_cases he : e = 0
        · subst he
          have hxr := act_right hq hA
          have hxl := len_of hxr
          repeat' ((conv => whnf); first | (refine ⟨fun h => ?_, fun h => ?_⟩ <;> try (exfalso; first | omega | exact absurd h (by decide) | exact h rfl | exact absurd (show true = false from h) (by decide) | exact absurd (show false = true from h) (by decide) | exact h ⟨rfl, rfl, rfl, rfl, rfl, rfl, trivial⟩)) | (refine ⟨by omega, fun r hrr => ?_⟩; first | ((have hre : r = encOp o := by (first | exact get_row hrr ho | fail)); subst hre)) | (refine ⟨_, act_h, (q, o), hql, leVs_of_eq rfl, .inl rfl, rfl, ?_⟩; show norm (resT (actF q o)) _; rw [hA]; show norm (.tup [L 6 ((x : List Inc).map encI), I 0]) _) | (refine ⟨_, right_h, x, (by show (x).length ≤ 9223372036854775807; omega), leVs_of_eq rfl, .inl rfl, rfl, ?_⟩; show norm (I (rightI x)) _; rw [hxr]) | (refine ⟨_, rright_h, x, (by show (x).length ≤ 9223372036854775807; omega), leVs_of_eq rfl, .inl rfl, rfl, ?_⟩; show norm (I (rightI x)) _; rw [hxr]) | (refine ⟨(i + 1, x), ⟨?_, by (try dsimp only); omega⟩, [], ⟨⟨rfl, rfl⟩, ⟨⟨rfl, rfl⟩, ⟨⟨rfl, rfl⟩, ⟨⟨rfl, rfl⟩, trivial⟩⟩⟩⟩, ⟨⟨rfl, rfl, rfl⟩, trivial⟩, rfl, rfl, rfl⟩; (try dsimp only); exact ⟨by omega, hxr⟩) | (refine And.intro (And.intro (by omega) (by omega)) ?_) | fail | fail)
        · repeat' ((conv => whnf); first | (refine ⟨fun h => ?_, fun h => ?_⟩ <;> try (exfalso; first | omega | exact absurd h (by decide) | exact h rfl | exact absurd (show true = false from h) (by decide) | exact absurd (show false = true from h) (by decide) | exact h ⟨rfl, rfl, rfl, rfl, rfl, rfl, trivial⟩)) | (refine ⟨by omega, fun r hrr => ?_⟩; first | ((have hre : r = encOp o := by (first | exact get_row hrr ho | fail)); subst hre)) | (refine ⟨_, act_h, (q, o), hql, leVs_of_eq rfl, .inl rfl, rfl, ?_⟩; show norm (resT (actF q o)) _; rw [hA]; show norm (.tup [L 6 ((x : List Inc).map encI), I e]) _) | (refine ⟨_, right_h, q, (by show (q).length ≤ 9223372036854775807; omega), leVs_of_eq rfl, .inl rfl, rfl, ?_⟩; show norm (I (rightI q)) _; rw [hq]) | (refine ⟨_, rright_h, q, (by show (q).length ≤ 9223372036854775807; omega), leVs_of_eq rfl, .inl rfl, rfl, ?_⟩; show norm (I (rightI q)) _; rw [hq]) | (refine ⟨(i + 1, q), ⟨?_, by (try dsimp only); omega⟩, [], ⟨⟨rfl, rfl⟩, ⟨⟨rfl, rfl⟩, ⟨⟨rfl, rfl⟩, ⟨⟨rfl, rfl⟩, trivial⟩⟩⟩⟩, ⟨⟨rfl, rfl, rfl⟩, trivial⟩, rfl, rfl, rfl⟩; (try dsimp only); exact ⟨by omega, hq⟩) | (refine And.intro (And.intro (by omega) (by omega)) ?_) | fail | fail)
      · have hid := ids_of hq
        obtain ⟨⟨hb0, hbT⟩, hbest⟩ := plan_best hm q (nodes := nodes) (by omega)
        obtain ⟨P, hP1⟩ : ∃ P, (planF m q nodes).1 = P := ⟨_, rfl⟩
        have hP : planF m q nodes = (P, 0) := by rw [← hP1, ← hb0]
        rw [hP1] at hbT hbest
        have hPl : P.length = kOf q nodes := hbT.len
        have hlp : (P.map e1).length = P.length := List.length_map ..
        have hlu : ((urgF q).map e1).length = (urgF q).length := List.length_map ..
        have hkk : kOf q nodes = min nodes.length (urgF q).length := rfl
        have hTP : totF ⟨m, q, nodes⟩ P = (sumR (cst m q nodes P) P.length, true) := tot_yes ⟨by show P.length ≤ (urgF q).length; omega, hbT.nd, hbT.rg⟩
        obtain ⟨sP, hsP⟩ : ∃ sP, sumR (cst m q nodes P) P.length = sP := ⟨_, rfl⟩
        rw [hsP] at hTP
        by_cases hol : other.length = P.length
        · by_cases hok : okTo ⟨m, q, nodes⟩ other
          · have hTO : totF ⟨m, q, nodes⟩ other = (sumR (cst m q nodes other) other.length, true) := tot_yes hok
            obtain ⟨sO, hsO⟩ : ∃ sO, sumR (cst m q nodes other) other.length = sO := ⟨_, rfl⟩
            have hle : sP ≤ sO := by
              rw [← hsP, ← hsO, hol, hPl]
              exact hbest other ⟨by omega, hok.2.1, hok.2.2⟩
            rw [hsO] at hTO
            repeat' ((conv => whnf); first | (refine ⟨fun h => ?_, fun h => ?_⟩ <;> try (exfalso; first | omega | exact absurd h (by decide) | exact h rfl | exact absurd (show true = false from h) (by decide) | exact absurd (show false = true from h) (by decide) | exact h ⟨rfl, rfl, rfl, rfl, rfl, rfl, trivial⟩)) | (refine ⟨_, rurgent_h, q, ⟨hid, (by show q.length ≤ 1000000; omega)⟩, leVs_of_eq rfl, .inl rfl, rfl, ?_⟩; show norm (L 1 ((urgF q).map e1)) _) | (refine ⟨_, plan_h, (m, q, nodes), ⟨hm, hid, (by show q.length ≤ 1000000; omega)⟩, leVs_of_eq rfl, .inl rfl, rfl, ?_⟩; show norm (.tup [L 1 ((planF m q nodes).1.map e1), I (planF m q nodes).2]) _; rw [hP]; show norm (.tup [L 1 (P.map e1), I 0]) _) | (refine ⟨_, total_h, (⟨m, q, nodes⟩, P), ⟨hm, (by show q.length ≤ 1000; omega)⟩, leVs_of_eq rfl, .inl rfl, rfl, ?_⟩; show norm (.tup [I (totF ⟨m, q, nodes⟩ P).1, B (totF ⟨m, q, nodes⟩ P).2]) _; rw [hTP]; show norm (.tup [I sP, B true]) _) | (refine ⟨_, total_h, (⟨m, q, nodes⟩, other), ⟨hm, (by show q.length ≤ 1000; omega)⟩, leVs_of_eq rfl, .inl rfl, rfl, ?_⟩; show norm (.tup [I (totF ⟨m, q, nodes⟩ other).1, B (totF ⟨m, q, nodes⟩ other).2]) _; rw [hTO]; show norm (.tup [I sO, B true]) _) | exact ⟨[], rfl, trivial, rfl⟩ | fail | fail)
          · have hTO := tot_no hok
            repeat' ((conv => whnf); first | (refine ⟨fun h => ?_, fun h => ?_⟩ <;> try (exfalso; first | omega | exact absurd h (by decide) | exact h rfl | exact absurd (show true = false from h) (by decide) | exact absurd (show false = true from h) (by decide) | exact h ⟨rfl, rfl, rfl, rfl, rfl, rfl, trivial⟩)) | (refine ⟨_, rurgent_h, q, ⟨hid, (by show q.length ≤ 1000000; omega)⟩, leVs_of_eq rfl, .inl rfl, rfl, ?_⟩; show norm (L 1 ((urgF q).map e1)) _) | (refine ⟨_, plan_h, (m, q, nodes), ⟨hm, hid, (by show q.length ≤ 1000000; omega)⟩, leVs_of_eq rfl, .inl rfl, rfl, ?_⟩; show norm (.tup [L 1 ((planF m q nodes).1.map e1), I (planF m q nodes).2]) _; rw [hP]; show norm (.tup [L 1 (P.map e1), I 0]) _) | (refine ⟨_, total_h, (⟨m, q, nodes⟩, P), ⟨hm, (by show q.length ≤ 1000; omega)⟩, leVs_of_eq rfl, .inl rfl, rfl, ?_⟩; show norm (.tup [I (totF ⟨m, q, nodes⟩ P).1, B (totF ⟨m, q, nodes⟩ P).2]) _; rw [hTP]; show norm (.tup [I sP, B true]) _) | (refine ⟨_, total_h, (⟨m, q, nodes⟩, other), ⟨hm, (by show q.length ≤ 1000; omega)⟩, leVs_of_eq rfl, .inl rfl, rfl, ?_⟩; show norm (.tup [I (totF ⟨m, q, nodes⟩ other).1, B (totF ⟨m, q, nodes⟩ other).2]) _; rw [hTO]; show norm (.tup [I 0, B false]) _) | exact ⟨[], rfl, trivial, rfl⟩ | fail | fail)
        · repeat' ((conv => whnf); first | (refine ⟨fun h => ?_, fun h => ?_⟩ <;> try (exfalso; first | omega | exact absurd h (by decide) | exact h rfl | exact absurd (show true = false from h) (by decide) | exact absurd (show false = true from h) (by decide) | exact h ⟨rfl, rfl, rfl, rfl, rfl, rfl, trivial⟩)) | (refine ⟨_, rurgent_h, q, ⟨hid, (by show q.length ≤ 1000000; omega)⟩, leVs_of_eq rfl, .inl rfl, rfl, ?_⟩; show norm (L 1 ((urgF q).map e1)) _) | (refine ⟨_, plan_h, (m, q, nodes), ⟨hm, hid, (by show q.length ≤ 1000000; omega)⟩, leVs_of_eq rfl, .inl rfl, rfl, ?_⟩; show norm (.tup [L 1 ((planF m q nodes).1.map e1), I (planF m q nodes).2]) _; rw [hP]; show norm (.tup [L 1 (P.map e1), I 0]) _) | (refine ⟨_, total_h, (⟨m, q, nodes⟩, P), ⟨hm, (by show q.length ≤ 1000; omega)⟩, leVs_of_eq rfl, .inl rfl, rfl, ?_⟩; show norm (.tup [I (totF ⟨m, q, nodes⟩ P).1, B (totF ⟨m, q, nodes⟩ P).2]) _; rw [hTP]; show norm (.tup [I sP, B true]) _) | exact ⟨[], rfl, trivial, rfl⟩ | fail | fail)
    · repeat' ((conv => whnf); first | (refine ⟨fun h => ?_, fun h => ?_⟩ <;> try (exfalso; first | omega | exact absurd h (by decide) | exact h rfl | exact absurd (show true = false from h) (by decide) | exact absurd (show false = true from h) (by decide) | exact h ⟨rfl, rfl, rfl, rfl, rfl, rfl, trivial⟩)) | (refine ⟨_, alive_h, (), trivial, leVs_of_eq rfl, .inl rfl, rfl, ?_⟩; show norm (B true) _) | (refine ⟨_, lright_h, l, hl0, leVs_of_eq rfl, .inl rfl, rfl, ?_⟩; show norm (B (decide (rightI l = 0))) _; rw [decide_eq_true h0]) | (refine ⟨_, rrightM_h, m, hm0, leVs_of_eq rfl, .inl rfl, rfl, ?_⟩; show norm (I (rightM m)) _; rw [hE]) | exact ⟨[], rfl, trivial, rfl⟩ | fail)
  · repeat' ((conv => whnf); first | (refine ⟨fun h => ?_, fun h => ?_⟩ <;> try (exfalso; first | omega | exact absurd h (by decide) | exact h rfl | exact absurd (show true = false from h) (by decide) | exact absurd (show false = true from h) (by decide) | exact h ⟨rfl, rfl, rfl, rfl, rfl, rfl, trivial⟩)) | (refine ⟨_, alive_h, (), trivial, leVs_of_eq rfl, .inl rfl, rfl, ?_⟩; show norm (B true) _) | (refine ⟨_, lright_h, l, hl0, leVs_of_eq rfl, .inl rfl, rfl, ?_⟩; show norm (B (decide (rightI l = 0))) _; rw [decide_eq_false h0]) | exact ⟨[], rfl, trivial, rfl⟩ | fail)
theorem law_h : Holds Try.prog 7 lawS := holds_of mix Try.func7 lawLow (fun _ => rfl) lawV

/-! ### THE ROW's STEP -/
theorem own : ownKnob Try.prog.godebug = none := by kernel_rfl
theorem laidOut : laidOutB Try.prog = true := by kernel_rfl
set_option maxRecDepth 100000 in
theorem lifted (os : Os) (started : os.Started) (H : Type) (enc : TypeId × Value → H) :
    ReturnsInHanded {} Try.checked os 7 .any (Rows.incidentTeamsSpec.pre6 enc Try.prog Try.f7 Rows.incidentTeamsRow.domain false) (Rows.incidentTeamsSpec.post enc Try.prog Try.f7 false true false false) := by
  refine returnsInHanded_of_change (C := Try.checked) own started (by kernel_rfl) Try.func7
    (ChangeSpec.witness6 (enc := enc) (C := Try.checked) false ⟨#[], #[.agg #[.slice none 0 0, .slice none 0 0, .slice none 0 0, .slice none 0 0, .slice none 0 0, .slice none 0 0], .slice none 0 0, .slice none 0 0], []⟩ 8 (by kernel_rfl) (by kernel_rfl) (by kernel_rfl) (by kernel_rfl)) ?_
  intro W base args ds gs before hval0 hW hcnd _
  have hval : ∀ (j : Nat) t v, Try.f7.params[j]? = some t → args[j]? = some v → Value.okWide Try.prog W .any base t v := hval0
  have hW' := hW
  obtain ⟨p, q, hA0, hV, rfl, hfz, hnd⟩ := hW
  have hA : DataW.TrodAll enc Try.prog W 0 (fun _ => true) true Try.f7.params.toList args.toList ds p := hA0
  rw [Try.params7] at hA hval
  obtain ⟨v0, vs0, d0, ds0, p0, q0, hargs, rfl, rfl, h0, r0⟩ := trodAll_cons hA
  obtain ⟨v1, vs1, d1, ds1, p1, q1, rfl, rfl, rfl, h1, r1⟩ := trodAll_cons r0
  obtain ⟨v2, vs2, d2, ds2, p2, q2, rfl, rfl, rfl, h2, r2⟩ := trodAll_cons r1
  obtain ⟨rfl, rfl, rfl⟩ := trodAll_nil r2
  obtain rfl : args = #[v0, v1, v2] := by cases args; simp_all
  obtain ⟨rfl, rfl⟩ := trodVars_none hV
  have lt0 : ∀ x ∈ p0, x.block < W.heap.size := by obtain ⟨m, hm⟩ := h0; exact DataW.trod_lt m _ _ _ hm
  obtain ⟨z0, w0, x0⟩ := openSc (hval 0 49 v0 rfl rfl) h0
  have lt1 : ∀ x ∈ p1, x.block < W.heap.size := by obtain ⟨m, hm⟩ := h1; exact DataW.trod_lt m _ _ _ hm
  obtain ⟨z1, w1, x1⟩ := openOs (hval 1 50 v1 rfl rfl) h1
  have lt2 : ∀ x ∈ p2, x.block < W.heap.size := by obtain ⟨m, hm⟩ := h2; exact DataW.trod_lt m _ _ _ hm
  obtain ⟨z2, w2, x2⟩ := openIs (hval 2 33 v2 rfl rfl) h2
  clear hA0 hval0
  refine Calls.mono (law_calls law_h (z0, z1, z2) w0 rfl (vs := [v0, v1, v2]) (replist_mk x0 (replist_mk x1 (replist_mk x2 replist_mk0)))) fun e W' ⟨he, bel⟩ => ?_
  subst he
  exact ⟨_, rfl, _, _, _, [], _, [], hW', trodAll_mk1 (shut_bool Try.underlying4 _), (trodAll_cons_mk (Below.trod laidOut (by kernel_rfl) (of_decide_eq_true (by kernel_rfl)) h0 bel lt0) (trodAll_cons_mk (Below.trod laidOut (by kernel_rfl) (of_decide_eq_true (by kernel_rfl)) h1 bel lt1) (trodAll_cons_mk (Below.trod laidOut (by kernel_rfl) (of_decide_eq_true (by kernel_rfl)) h2 bel lt2) trodAll_mk0))), rfl, bel.frame _, fun h => by cases h⟩

theorem over : Rows.incidentTeamsRow.holds Try.pinned (OpenSpec.ofChange Rows.incidentTeamsSpec) :=
  OpenClaim.holds_of_wide 7 Try.f7 rfl rfl rfl rfl rfl rfl rfl ⟨rfl, rfl, rfl, rfl, rfl⟩ rfl rfl rfl rfl rfl (by kernel_rfl) Try.func7 (by kernel_rfl)
    (of_decide_eq_true (by kernel_rfl)) (by unfold Func.isWrapper; first | (rw [if_pos (by decide +kernel)]; kernel_rfl) | (rw [if_neg (by decide +kernel)]; exact ⟨rfl, rfl⟩))
    (fun os started H enc _ => lifted os started H enc)

theorem proved : Rows.IncidentTeamsSaid := over
end Go.Proofs.Ytoeichkblclfaaa.lawTeams
