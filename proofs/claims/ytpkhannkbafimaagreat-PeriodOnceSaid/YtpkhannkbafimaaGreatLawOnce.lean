/- PeriodOnce: each ride is counted in exactly one period, and a closed period does not change. No condition. -/
import Derived.Test.YtpkhannkbafimaaGreatRN
namespace Go.Proofs.YtpkhannkbafimaaGreat.lawOnce
open Go.ChangeShapes Go.WideShapes Go.ChangeAt Go.RowKit Go.Deep Go.Joins
set_option linter.unusedVariables false
set_option maxRecDepth 20000

/-! skiarea/skiarealaw38.PeriodOnce -/
def lawIr : IFn := ⟨87, [.tmp 4],
  (.seq (.ops [
    ⟨(some 2), .box, [.tmp 0], none⟩,
    ⟨(some 4), .mov, [.const (.bool false)], none⟩] false)
  (.seq (.seq (.ops [
    ⟨(some 11), .call 11, [], none⟩,
    ⟨(some 12), .not, [.tmp 11], none⟩] false)
  (.cond (.tmp 12)
    (.seq (.ops [
      ⟨(some 4), .mov, [.const (.bool false)], none⟩] false)
    .ret)
    .skip))
  (.seq (.seq (.ops [
    ⟨(some 13), .load 3 true, [.tmp 2], none⟩,
    ⟨(some 14), .call 12, [.tmp 13], none⟩,
    ⟨(some 15), .not, [.tmp 14], none⟩,
    ⟨(some 16), .mov, [.tmp 15], none⟩,
    ⟨(some 17), .faddr 0, [.tmp 2], (some (16, false))⟩,
    ⟨(some 18), .load 1 false, [.tmp 17], (some (16, false))⟩,
    ⟨(some 19), .len, [.tmp 18], (some (16, false))⟩,
    ⟨(some 20), .cmp .gtr, [.tmp 19, .const (.int .i64 10)], (some (16, false))⟩,
    ⟨(some 21), .pick, [.tmp 16, .const (.bool true), .tmp 20], none⟩,
    ⟨(some 22), .mov, [.tmp 21], none⟩,
    ⟨(some 23), .faddr 2, [.tmp 2], (some (22, false))⟩,
    ⟨(some 24), .load 1 false, [.tmp 23], (some (22, false))⟩,
    ⟨(some 25), .len, [.tmp 24], (some (22, false))⟩,
    ⟨(some 26), .cmp .gtr, [.tmp 25, .const (.int .i64 40)], (some (22, false))⟩,
    ⟨(some 27), .pick, [.tmp 22, .const (.bool true), .tmp 26], none⟩,
    ⟨(some 28), .mov, [.tmp 27], none⟩,
    ⟨(some 29), .mov, [.tmp 1], (some (28, false))⟩,
    ⟨(some 30), .len, [.tmp 29], (some (28, false))⟩,
    ⟨(some 31), .cmp .gtr, [.tmp 30, .const (.int .i64 20)], (some (28, false))⟩,
    ⟨(some 32), .pick, [.tmp 28, .const (.bool true), .tmp 31], none⟩,
    ⟨(some 33), .mov, [.tmp 32], none⟩,
    ⟨(some 34), .load 3 true, [.tmp 2], (some (33, false))⟩,
    ⟨(some 35), .call 13, [.tmp 34], (some (33, false))⟩,
    ⟨(some 36), .cmp .neq, [.tmp 35, .const (.int .i64 0)], (some (33, false))⟩,
    ⟨(some 37), .pick, [.tmp 33, .const (.bool true), .tmp 36], none⟩] false)
  (.cond (.tmp 37)
    (.seq (.ops [
      ⟨(some 4), .mov, [.const (.bool true)], none⟩] false)
    .ret)
    .skip))
  (.seq (.ops [
    ⟨(some 38), .load 3 true, [.tmp 2], none⟩,
    ⟨(some 5), .alloc [.nil, .nil, .nil], [], none⟩,
    ⟨none, .store 3, [.tmp 5, .tmp 38], none⟩] false)
  (.seq (.seq (.ops [
    ⟨(some 6), .mov, [.const (.int .i64 0)], none⟩] false)
  (.block 0
    (.loop
      (.seq (.seq (.ops [
        ⟨(some 39), .mov, [.tmp 6], none⟩,
        ⟨(some 40), .mov, [.tmp 1], none⟩,
        ⟨(some 41), .len, [.tmp 40], none⟩,
        ⟨(some 42), .cmp .lss, [.tmp 39, .tmp 41], none⟩] false)
      (.cond (.tmp 42)
        .skip
        (.exit 0)))
      (.seq (.block 1
        (.seq (.ops [
          ⟨(some 46), .load 3 true, [.tmp 5], none⟩,
          ⟨(some 47), .mov, [.tmp 1], none⟩,
          ⟨(some 48), .mov, [.tmp 6], none⟩,
          ⟨(some 49), .idx 12, [.tmp 47, .tmp 48], none⟩,
          ⟨(some 50), .load 12 true, [.tmp 49], none⟩,
          ⟨(some 51), .call 25, [.tmp 46, .tmp 50], none⟩,
          ⟨(some 45), .mov, [.tmp 51], none⟩,
          ⟨(some 52), .extract 0, [.tmp 45], none⟩,
          ⟨(some 53), .extract 1, [.tmp 45], none⟩,
          ⟨(some 7), .alloc [.nil, .nil, .nil], [], none⟩,
          ⟨none, .store 3, [.tmp 7, .tmp 52], none⟩,
          ⟨(some 8), .mov, [.tmp 53], none⟩] true)
        (.seq (.seq (.ops [
          ⟨(some 54), .mov, [.tmp 8], none⟩,
          ⟨(some 55), .not, [.tmp 54], none⟩] false)
        (.cond (.tmp 55)
          (.exit 1)
          .skip))
        (.seq (.seq (.ops [
          ⟨(some 56), .load 3 true, [.tmp 5], none⟩,
          ⟨(some 57), .load 3 true, [.tmp 7], none⟩,
          ⟨(some 58), .call 26, [.tmp 56, .tmp 57], none⟩,
          ⟨(some 59), .not, [.tmp 58], none⟩] false)
        (.cond (.tmp 59)
          (.seq (.ops [
            ⟨(some 4), .mov, [.const (.bool false)], none⟩] false)
          .ret)
          .skip))
        (.seq (.seq (.ops [
          ⟨(some 60), .mov, [.tmp 1], none⟩,
          ⟨(some 61), .mov, [.tmp 6], none⟩,
          ⟨(some 62), .idx 12, [.tmp 60, .tmp 61], none⟩,
          ⟨(some 63), .faddr 0, [.tmp 62], none⟩,
          ⟨(some 64), .load 1 false, [.tmp 63], none⟩,
          ⟨(some 65), .cmp .eql, [.tmp 64, .const (.int .i64 1)], none⟩] false)
        (.cond (.tmp 65)
          (.seq (.ops [
            ⟨(some 9), .mov, [.const (.int .i64 0)], none⟩] false)
          (.seq (.seq (.ops [
            ⟨(some 10), .mov, [.const (.int .i64 1)], none⟩] false)
          (.block 2
            (.loop
              (.seq (.seq (.ops [
                ⟨(some 66), .mov, [.tmp 10], none⟩,
                ⟨(some 67), .faddr 0, [.tmp 7], none⟩,
                ⟨(some 68), .load 1 false, [.tmp 67], none⟩,
                ⟨(some 69), .len, [.tmp 68], none⟩,
                ⟨(some 70), .cmp .leq, [.tmp 66, .tmp 69], none⟩] false)
              (.cond (.tmp 70)
                .skip
                (.exit 2)))
              (.seq (.block 3
                (.ops [
                  ⟨(some 73), .mov, [.tmp 9], none⟩,
                  ⟨(some 74), .load 3 true, [.tmp 7], none⟩,
                  ⟨(some 75), .mov, [.tmp 10], none⟩,
                  ⟨(some 76), .call 23, [.tmp 74, .tmp 75], none⟩,
                  ⟨(some 77), .mov, [.tmp 1], none⟩,
                  ⟨(some 78), .mov, [.tmp 6], none⟩,
                  ⟨(some 79), .idx 12, [.tmp 77, .tmp 78], none⟩,
                  ⟨(some 80), .faddr 3, [.tmp 79], none⟩,
                  ⟨(some 81), .load 7 true, [.tmp 80], none⟩,
                  ⟨(some 82), .call 27, [.tmp 76, .tmp 81], none⟩,
                  ⟨(some 83), .bin .add .i64 false, [.tmp 73, .tmp 82], none⟩,
                  ⟨(some 9), .mov, [.tmp 83], none⟩] true))
              (.ops [
                ⟨(some 71), .mov, [.tmp 10], none⟩,
                ⟨(some 72), .bin .add .i64 false, [.tmp 71, .const (.int .i64 1)], none⟩,
                ⟨(some 10), .mov, [.tmp 72], none⟩] false))))))
          (.seq (.ops [
            ⟨(some 84), .mov, [.tmp 9], none⟩,
            ⟨(some 85), .cmp .neq, [.tmp 84, .const (.int .i64 1)], none⟩] false)
          (.cond (.tmp 85)
            (.seq (.ops [
              ⟨(some 4), .mov, [.const (.bool false)], none⟩] false)
            .ret)
            .skip))))
          .skip))
        (.ops [
          ⟨(some 86), .load 3 true, [.tmp 7], none⟩,
          ⟨none, .store 3, [.tmp 5, .tmp 86], none⟩] false))))))
      (.ops [
        ⟨(some 43), .mov, [.tmp 6], none⟩,
        ⟨(some 44), .bin .add .i64 false, [.tmp 43, .const (.int .i64 1)], none⟩,
        ⟨(some 6), .mov, [.tmp 44], none⟩] false))))))
  (.seq (.ops [
    ⟨(some 4), .mov, [.const (.bool true)], none⟩] false)
  .ret))))))⟩
theorem lawLow : lowF Tryz.prog {} Tryz.f7 = some lawIr := by kernel_rfl
def lawS : Spec := spec (Bk × List Opp) (fun p => [aB p.1, L 12 (p.2.map encOp)]) (fun p => okB p.1 ∧ ∀ x ∈ p.2, okOp x) (fun _ => B true)
set_option maxHeartbeats 2000000 in
theorem lawV : fnV Tryz.prog lawIr lawS := by
  intro ⟨(b : Bk), (l : List Opp)⟩ hp
  obtain ⟨ho, hop⟩ : okB b ∧ ∀ x ∈ l, okOp x := hp
  have hlp : (b.ps.map encP).length = b.ps.length := List.length_map ..
  have hlo : (b.po.map encO).length = b.po.length := List.length_map ..
  have hlr : (b.rs.map encC).length = b.rs.length := List.length_map ..
  have hll : (l.map encOp).length = l.length := List.length_map ..
  show vc _ _ _ _ ⟨argEnv 0 [aB b, L 12 (l.map encOp)], [], 0⟩
  by_cases hd : (FewB b ∧ b.ps.length ≤ 10 ∧ b.rs.length ≤ 40 ∧ l.length ≤ 20) ∧ rightB b = 0
  · obtain ⟨⟨hf, h10, h40, h20⟩, hr0⟩ := hd
    have hr := rb_of hr0
    repeat' ((conv => whnf); first | (refine ⟨fun h => ?_, fun h => ?_⟩ <;> try (exfalso; first | omega | exact absurd h (by decide) | exact h rfl | exact absurd (show true = false from h) (by decide) | exact absurd (show false = true from h) (by decide))) | (refine ⟨_, alive_h, (), trivial, leVs_of_eq rfl, .inl rfl, rfl, ?_⟩; show norm (B true) _) | (refine ⟨_, few_h, b, ho, leVs_of_eq rfl, .inl rfl, rfl, ?_⟩; show norm (B (decide (FewB b))) _; rw [decide_eq_true hf]) | (refine ⟨_, Right_h, b, ho, leVs_of_eq rfl, .inl rfl, rfl, ?_⟩; show norm (I (rightB b)) _; rw [hr0]) | fail | fail)
    refine ⟨Nat × Bk, fun xq => ⟨[(1, L 12 (l.map encOp)), (5, .bp 0 0), (6, I xq.1)], [(0, bB' xq.2)], 1⟩, fun xq => xq.1 ≤ l.length ∧ RB xq.2, fun xq => l.length - xq.1, ⟨(0, b), ?_, [(0, 1)], ⟨⟨rfl, rfl⟩, ⟨⟨rfl, rfl⟩, ⟨⟨rfl, rfl⟩, trivial⟩⟩⟩, ⟨⟨rfl, rfl, rfl⟩, trivial⟩, rfl, rfl, rfl⟩, ?_⟩
    · (try dsimp only); exact ⟨Nat.zero_le _, hr⟩
    rintro ⟨k, c⟩ hk
    obtain ⟨hk, hc⟩ : k ≤ l.length ∧ RB c := hk
    (try dsimp only)
    by_cases hkl : k < l.length
    · obtain ⟨x, hx⟩ := getElem_some hkl
      have hox := hop x (List.mem_of_getElem? hx)
      obtain ⟨y, hY⟩ : ∃ y, doB c x = y := ⟨_, rfl⟩
      have hy : RB y := hY ▸ hc.doit x
      cases hK : doK c x with
      | false => repeat' ((conv => whnf); first | (refine ⟨fun h => ?_, fun h => ?_⟩ <;> try (exfalso; first | omega | exact absurd h (by decide) | exact h rfl | exact absurd (show true = false from h) (by decide) | exact absurd (show false = true from h) (by decide))) | (refine ⟨by omega, fun r hrr => ?_⟩; first | ((have hre : r = encOp x := by (first | exact get_row hrr hx | fail)); subst hre)) | (refine ⟨_, do_h, (c, x), ⟨hc, hox⟩, leVs_of_eq rfl, .inl rfl, rfl, ?_⟩; show norm (.tup [aB (doB c x), B (doK c x)]) _; rw [hY, hK]) | (refine ⟨(k + 1, c), ⟨?_, by (try dsimp only); omega⟩, [], ⟨⟨rfl, rfl⟩, ⟨⟨rfl, rfl⟩, ⟨⟨rfl, rfl⟩, trivial⟩⟩⟩, ⟨⟨rfl, rfl, rfl⟩, trivial⟩, rfl, rfl, rfl⟩; (try dsimp only); exact ⟨by omega, hc⟩) | refine ⟨⟨by omega, by omega⟩, ?_⟩ | fail)
      | true =>
        have hkp : KeptP c y := hY ▸ kept_do hc hK
        by_cases k1 : x.kind = 1
        · obtain ⟨u, hu, hur⟩ : ∃ u, u ∈ y.rs ∧ u.r = x.r := hY ▸ do_in hK k1
          have hyp : (y.ps.map encP).length = y.ps.length := List.length_map ..
          have hy64 := hy.p64
          obtain ⟨iu, hiu⟩ := List.mem_iff_getElem?.1 hu
          have hlo := (hy.cntp hiu).lo
          have hhi := (hy.cntp hiu).hi
          repeat' ((conv => whnf); first | (refine ⟨fun h => ?_, fun h => ?_⟩ <;> try (exfalso; first | omega | exact absurd h (by decide) | exact h rfl | contradiction | exact absurd (show true = false from h) (by decide) | exact absurd (show false = true from h) (by decide))) | (refine ⟨by omega, fun r hrr => ?_⟩; first | ((have hre : r = encOp x := by (first | exact get_row hrr hx | fail)); subst hre)) | (refine ⟨_, do_h, (c, x), ⟨hc, hox⟩, leVs_of_eq rfl, .inl rfl, rfl, ?_⟩; show norm (.tup [aB (doB c x), B (doK c x)]) _; rw [hY, hK]) | (refine ⟨_, kept_h, (c, y), ⟨hc, hy, hkp⟩, leVs_of_eq rfl, .inl rfl, rfl, ?_⟩; show norm (B true) _) | fail | fail)
          refine ⟨Nat × Int, fun xq => ⟨[(1, L 12 (l.map encOp)), (5, .bp 0 0), (6, I k), (7, .bp 1 0), (9, I xq.2), (10, I (xq.1 + 1))], [(0, bB' c), (1, bB' y)], 2⟩, fun xq => xq.1 ≤ y.ps.length ∧ xq.2 = if u.per ≤ xq.1 then 1 else 0, fun xq => y.ps.length - xq.1, ⟨(0, 0), ?_, [], ⟨⟨rfl, rfl⟩, ⟨⟨rfl, rfl⟩, ⟨⟨rfl, rfl⟩, ⟨⟨rfl, rfl⟩, ⟨⟨rfl, rfl⟩, ⟨⟨rfl, rfl⟩, trivial⟩⟩⟩⟩⟩⟩, ⟨⟨rfl, rfl, rfl⟩, ⟨⟨rfl, rfl, rfl⟩, trivial⟩⟩, rfl, rfl, rfl⟩, ?_⟩
          · (try dsimp only); exact ⟨Nat.zero_le _, (if_neg (by omega)).symm⟩
          rintro ⟨j, n⟩ hk
          obtain ⟨hj, hn⟩ : j ≤ y.ps.length ∧ n = if u.per ≤ j then 1 else 0 := hk
          (try dsimp only)
          by_cases hjl : j < y.ps.length
          · have hct := count_at hy hu ((j : Int) + 1)
            have hn1 : n = 0 ∨ n = 1 := by rw [hn]; split <;> omega
            have hlen := ridesOf_len y ((j : Int) + 1)
            have hr2 := hy.r2000
            rw [hur] at hct
            obtain ⟨q, hq⟩ : ∃ q : Nat, (ridesOf y ((j : Int) + 1)).count x.r = q := ⟨_, rfl⟩
            rw [hq] at hct
            have hq1 : q ≤ 1 := by rw [hct]; split <;> omega
            repeat' ((conv => whnf); first | (refine ⟨fun h => ?_, fun h => ?_⟩ <;> try (exfalso; first | omega | exact absurd h (by decide) | exact h rfl | contradiction | exact absurd (show true = false from h) (by decide) | exact absurd (show false = true from h) (by decide))) | (refine ⟨by omega, fun r hrr => ?_⟩; first | ((have hre : r = encOp x := by (first | exact get_row hrr hx | fail)); subst hre)) | (refine ⟨_, rides_h, (y, (j : Int) + 1), hy.rid, leVs_of_eq rfl, .inl rfl, rfl, ?_⟩; show norm (L 7 ((ridesOf y ((j : Int) + 1)).map encD)) _) | (refine ⟨_, times_h, (ridesOf y ((j : Int) + 1), x.r), (by show (ridesOf y ((j : Int) + 1)).length ≤ _; omega), leVs_of_eq rfl, .inl rfl, rfl, ?_⟩; show norm (I ((ridesOf y ((j : Int) + 1)).count x.r : Nat)) _; rw [hq]) | (refine ⟨(j + 1, _), ⟨?_, by (try dsimp only); omega⟩, [], ⟨⟨rfl, rfl⟩, ⟨⟨rfl, rfl⟩, ⟨⟨rfl, rfl⟩, ⟨⟨rfl, rfl⟩, ⟨⟨rfl, rfl⟩, ⟨⟨rfl, rfl⟩, trivial⟩⟩⟩⟩⟩⟩, ⟨⟨rfl, rfl, rfl⟩, ⟨⟨rfl, rfl, rfl⟩, trivial⟩⟩, rfl, rfl, rfl⟩; (try dsimp only); refine ⟨by omega, ?_⟩; rw [hn, hct]; split <;> split <;> split <;> omega) | refine ⟨⟨by omega, by omega⟩, ?_⟩ | fail)
          · have hn1 : n = 1 := hn.trans (if_pos (by omega))
            subst hn1
            repeat' ((conv => whnf); first | (refine ⟨fun h => ?_, fun h => ?_⟩ <;> try (exfalso; first | omega | exact absurd h (by decide) | exact h rfl | contradiction | exact absurd (show true = false from h) (by decide) | exact absurd (show false = true from h) (by decide))) | (refine ⟨(k + 1, y), ⟨?_, by (try dsimp only); omega⟩, [], ⟨⟨rfl, rfl⟩, ⟨⟨rfl, rfl⟩, ⟨⟨rfl, rfl⟩, trivial⟩⟩⟩, ⟨⟨rfl, rfl, rfl⟩, trivial⟩, rfl, rfl, rfl⟩; (try dsimp only); exact ⟨by omega, hy⟩) | refine ⟨⟨by omega, by omega⟩, ?_⟩ | fail)
        · repeat' ((conv => whnf); first | (refine ⟨fun h => ?_, fun h => ?_⟩ <;> try (exfalso; first | omega | exact absurd h (by decide) | exact h rfl | contradiction | exact absurd (show true = false from h) (by decide) | exact absurd (show false = true from h) (by decide))) | (refine ⟨by omega, fun r hrr => ?_⟩; first | ((have hre : r = encOp x := by (first | exact get_row hrr hx | fail)); subst hre)) | (refine ⟨_, do_h, (c, x), ⟨hc, hox⟩, leVs_of_eq rfl, .inl rfl, rfl, ?_⟩; show norm (.tup [aB (doB c x), B (doK c x)]) _; rw [hY, hK]) | (refine ⟨_, kept_h, (c, y), ⟨hc, hy, hkp⟩, leVs_of_eq rfl, .inl rfl, rfl, ?_⟩; show norm (B true) _) | (refine ⟨(k + 1, y), ⟨?_, by (try dsimp only); omega⟩, [], ⟨⟨rfl, rfl⟩, ⟨⟨rfl, rfl⟩, ⟨⟨rfl, rfl⟩, trivial⟩⟩⟩, ⟨⟨rfl, rfl, rfl⟩, trivial⟩, rfl, rfl, rfl⟩; (try dsimp only); exact ⟨by omega, hy⟩) | refine ⟨⟨by omega, by omega⟩, ?_⟩ | fail)
    · repeat' ((conv => whnf); first | (refine ⟨fun h => ?_, fun h => ?_⟩ <;> try (exfalso; first | omega | exact absurd h (by decide) | exact h rfl | exact absurd (show true = false from h) (by decide) | exact absurd (show false = true from h) (by decide))) | exact ⟨[], rfl, trivial, rfl⟩ | fail)
  · cases d : decide (FewB b) with
    | false => repeat' ((conv => whnf); first | (refine ⟨fun h => ?_, fun h => ?_⟩ <;> try (exfalso; first | omega | exact absurd h (by decide) | exact h rfl | exact absurd (show true = false from h) (by decide) | exact absurd (show false = true from h) (by decide))) | (refine ⟨_, alive_h, (), trivial, leVs_of_eq rfl, .inl rfl, rfl, ?_⟩; show norm (B true) _) | (refine ⟨_, few_h, b, ho, leVs_of_eq rfl, .inl rfl, rfl, ?_⟩; show norm (B (decide (FewB b))) _; rw [d]) | exact ⟨[], rfl, trivial, rfl⟩ | fail)
    | true =>
      by_cases hd1 : b.ps.length ≤ 10 ∧ b.rs.length ≤ 40 ∧ l.length ≤ 20
      · have hne : rightB b ≠ 0 := fun h => hd ⟨⟨of_decide_eq_true d, hd1⟩, h⟩
        repeat' ((conv => whnf); first | (refine ⟨fun h => ?_, fun h => ?_⟩ <;> try (exfalso; first | omega | exact absurd h (by decide) | exact h rfl | exact absurd (show true = false from h) (by decide) | exact absurd (show false = true from h) (by decide))) | (refine ⟨_, alive_h, (), trivial, leVs_of_eq rfl, .inl rfl, rfl, ?_⟩; show norm (B true) _) | (refine ⟨_, few_h, b, ho, leVs_of_eq rfl, .inl rfl, rfl, ?_⟩; show norm (B (decide (FewB b))) _; rw [d]) | (refine ⟨_, Right_h, b, ho, leVs_of_eq rfl, .inl rfl, rfl, ?_⟩; show norm (I (rightB b)) _) | exact ⟨[], rfl, trivial, rfl⟩ | fail)
      · repeat' ((conv => whnf); first | (refine ⟨fun h => ?_, fun h => ?_⟩ <;> try (exfalso; first | omega | exact absurd h (by decide) | exact h rfl | exact absurd (show true = false from h) (by decide) | exact absurd (show false = true from h) (by decide))) | (refine ⟨_, alive_h, (), trivial, leVs_of_eq rfl, .inl rfl, rfl, ?_⟩; show norm (B true) _) | (refine ⟨_, few_h, b, ho, leVs_of_eq rfl, .inl rfl, rfl, ?_⟩; show norm (B (decide (FewB b))) _; rw [d]) | (refine ⟨_, Right_h, b, ho, leVs_of_eq rfl, .inl rfl, rfl, ?_⟩; show norm (I (rightB b)) _) | exact ⟨[], rfl, trivial, rfl⟩ | fail)
theorem law_h : Holds Tryz.prog 7 lawS := holds_of mix Tryz.func7 lawLow (fun _ => rfl) lawV

/-! ### THE ROW's STEP -/
theorem own : ownKnob Tryz.prog.godebug = none := by kernel_rfl
theorem laidOut : laidOutB Tryz.prog = true := by kernel_rfl
set_option maxRecDepth 100000 in
theorem lifted (os : Os) (started : os.Started) (H : Type) (enc : TypeId × Value → H) :
    ReturnsInHanded {} Tryz.checked os 7 .any (Rows.periodOnceSpec.pre6 enc Tryz.prog Tryz.f7 Rows.periodOnceRow.domain false) (Rows.periodOnceSpec.post enc Tryz.prog Tryz.f7 false true false false) := by
  refine returnsInHanded_of_change (C := Tryz.checked) own started (by kernel_rfl) Tryz.func7
    (ChangeSpec.witness6 (enc := enc) (C := Tryz.checked) false ⟨#[], #[.agg #[.slice none 0 0, .slice none 0 0, .slice none 0 0], .slice none 0 0], []⟩ 8 (by kernel_rfl) (by kernel_rfl) (by kernel_rfl) (by kernel_rfl)) ?_
  intro W base args ds gs before hval0 hW hcnd _
  have hval : ∀ (j : Nat) t v, Tryz.f7.params[j]? = some t → args[j]? = some v → Value.okWide Tryz.prog W .any base t v := hval0
  have hW' := hW
  obtain ⟨p, q, hA0, hV, rfl, hfz, hnd⟩ := hW
  have hA : DataW.TrodAll enc Tryz.prog W 0 (fun _ => true) true Tryz.f7.params.toList args.toList ds p := hA0
  rw [Tryz.params7] at hA hval
  obtain ⟨v0, vs0, d0, ds0, p0, q0, hargs, rfl, rfl, h0, r0⟩ := trodAll_cons hA
  obtain ⟨v1, vs1, d1, ds1, p1, q1, rfl, rfl, rfl, h1, r1⟩ := trodAll_cons r0
  obtain ⟨rfl, rfl, rfl⟩ := trodAll_nil r1
  obtain rfl : args = #[v0, v1] := by cases args; simp_all
  obtain ⟨rfl, rfl⟩ := trodVars_none hV
  have lt0 : ∀ x ∈ p0, x.block < W.heap.size := by obtain ⟨m, hm⟩ := h0; exact DataW.trod_lt m _ _ _ hm
  obtain ⟨z0, w0, x0⟩ := openB (hval 0 26 v0 rfl rfl) h0
  have lt1 : ∀ x ∈ p1, x.block < W.heap.size := by obtain ⟨m, hm⟩ := h1; exact DataW.trod_lt m _ _ _ hm
  obtain ⟨z1, w1, x1⟩ := openOp (hval 1 44 v1 rfl rfl) h1
  clear hA0 hval0
  refine Calls.mono (law_calls law_h (z0, z1) ⟨w0, w1.2⟩ rfl (vs := [v0, v1]) (replist_mk x0 (replist_mk x1 replist_mk0))) fun e W' ⟨he, bel⟩ => ?_
  subst he
  exact ⟨_, rfl, _, _, _, [], _, [], hW', trodAll_mk1 (shut_bool Tryz.underlying4 _), (trodAll_cons_mk (Below.trod laidOut (by kernel_rfl) (of_decide_eq_true (by kernel_rfl)) h0 bel lt0) (trodAll_cons_mk (Below.trod laidOut (by kernel_rfl) (of_decide_eq_true (by kernel_rfl)) h1 bel lt1) trodAll_mk0)), rfl, bel.frame _, fun h => by cases h⟩

theorem over : Rows.periodOnceRow.holds Tryz.pinned (OpenSpec.ofChange Rows.periodOnceSpec) :=
  OpenClaim.holds_of_wide 7 Tryz.f7 rfl rfl rfl rfl rfl rfl rfl ⟨rfl, rfl, rfl, rfl, rfl⟩ rfl rfl rfl rfl rfl (by kernel_rfl) Tryz.func7 (by kernel_rfl)
    (of_decide_eq_true (by kernel_rfl)) (by unfold Func.isWrapper; first | (rw [if_pos (by decide +kernel)]; kernel_rfl) | (rw [if_neg (by decide +kernel)]; exact ⟨rfl, rfl⟩))
    (fun os started H enc _ => lifted os started H enc)

theorem proved : Rows.PeriodOnceSaid := over
end Go.Proofs.YtpkhannkbafimaaGreat.lawOnce
