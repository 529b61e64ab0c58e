/- Terrain: the reference's checks of lifts, runs and bases. -/
import Derived.Test.YtoeichkblclfaaaT3
namespace Go.Proofs.Ytoeichkblclfaaa
open Go.RowKit

/-! skiarea/skiarearef10.lifts -/
def rliftsIr : IFn := ⟨78, [.tmp 2],
  (.seq (.ops [
    ⟨(some 1), .box, [.tmp 0], none⟩,
    ⟨(some 2), .mov, [.const (.int .i64 0)], none⟩] false)
  (.seq (.seq (.ops [
    ⟨(some 3), .mov, [.const (.int .i64 0)], none⟩] false)
  (.block 0
    (.loop
      (.seq (.seq (.ops [
        ⟨(some 6), .mov, [.tmp 3], none⟩,
        ⟨(some 7), .faddr 1, [.tmp 1], none⟩,
        ⟨(some 8), .load 1 false, [.tmp 7], none⟩,
        ⟨(some 9), .len, [.tmp 8], none⟩,
        ⟨(some 10), .cmp .lss, [.tmp 6, .tmp 9], none⟩] false)
      (.cond (.tmp 10)
        .skip
        (.exit 0)))
      (.seq (.block 1
        (.seq (.ops [
          ⟨(some 13), .faddr 1, [.tmp 1], none⟩,
          ⟨(some 14), .load 1 false, [.tmp 13], none⟩,
          ⟨(some 15), .mov, [.tmp 3], none⟩,
          ⟨(some 16), .idx 8, [.tmp 14, .tmp 15], none⟩,
          ⟨(some 17), .load 8 true, [.tmp 16], none⟩,
          ⟨(some 4), .alloc [.int .i64 0, .int .i64 0, .int .i64 0, .int .i64 0, .int .i64 0, .int .i64 0, .int .i64 0, .int .i64 0], [], none⟩,
          ⟨none, .store 8, [.tmp 4, .tmp 17], none⟩] false)
        (.seq (.seq (.ops [
          ⟨(some 18), .faddr 0, [.tmp 4], none⟩,
          ⟨(some 19), .load 1 false, [.tmp 18], none⟩,
          ⟨(some 20), .call 68, [.tmp 19, .const (.int .i64 1), .const (.int .i64 9999)], none⟩,
          ⟨(some 21), .not, [.tmp 20], none⟩,
          ⟨(some 22), .mov, [.tmp 21], none⟩,
          ⟨(some 23), .faddr 1, [.tmp 4], (some (22, false))⟩,
          ⟨(some 24), .load 1 false, [.tmp 23], (some (22, false))⟩,
          ⟨(some 25), .call 68, [.tmp 24, .const (.int .i64 1), .const (.int .i64 8)], (some (22, false))⟩,
          ⟨(some 26), .not, [.tmp 25], (some (22, false))⟩,
          ⟨(some 27), .pick, [.tmp 22, .const (.bool true), .tmp 26], none⟩,
          ⟨(some 28), .mov, [.tmp 27], none⟩,
          ⟨(some 29), .faddr 4, [.tmp 4], (some (28, false))⟩,
          ⟨(some 30), .load 1 false, [.tmp 29], (some (28, false))⟩,
          ⟨(some 31), .call 68, [.tmp 30, .const (.int .i64 10), .const (.int .i64 6000)], (some (28, false))⟩,
          ⟨(some 32), .not, [.tmp 31], (some (28, false))⟩,
          ⟨(some 33), .pick, [.tmp 28, .const (.bool true), .tmp 32], none⟩,
          ⟨(some 34), .mov, [.tmp 33], none⟩,
          ⟨(some 35), .faddr 5, [.tmp 4], (some (34, false))⟩,
          ⟨(some 36), .load 1 false, [.tmp 35], (some (34, false))⟩,
          ⟨(some 37), .call 68, [.tmp 36, .const (.int .i64 500), .const (.int .i64 12000)], (some (34, false))⟩,
          ⟨(some 38), .not, [.tmp 37], (some (34, false))⟩,
          ⟨(some 39), .pick, [.tmp 34, .const (.bool true), .tmp 38], none⟩,
          ⟨(some 40), .mov, [.tmp 39], none⟩,
          ⟨(some 41), .faddr 6, [.tmp 4], (some (40, false))⟩,
          ⟨(some 42), .load 1 false, [.tmp 41], (some (40, false))⟩,
          ⟨(some 43), .call 68, [.tmp 42, .const (.int .i64 1), .const (.int .i64 16)], (some (40, false))⟩,
          ⟨(some 44), .not, [.tmp 43], (some (40, false))⟩,
          ⟨(some 45), .pick, [.tmp 40, .const (.bool true), .tmp 44], none⟩,
          ⟨(some 46), .mov, [.tmp 45], none⟩,
          ⟨(some 47), .faddr 7, [.tmp 4], (some (46, false))⟩,
          ⟨(some 48), .load 1 false, [.tmp 47], (some (46, false))⟩,
          ⟨(some 49), .call 68, [.tmp 48, .const (.int .i64 5), .const (.int .i64 1000)], (some (46, false))⟩,
          ⟨(some 50), .not, [.tmp 49], (some (46, false))⟩,
          ⟨(some 51), .pick, [.tmp 46, .const (.bool true), .tmp 50], none⟩] false)
        (.cond (.tmp 51)
          (.seq (.ops [
            ⟨(some 2), .mov, [.const (.int .i64 2)], none⟩] false)
          .ret)
          .skip))
        (.seq (.seq (.ops [
          ⟨(some 52), .mov, [.tmp 3], none⟩,
          ⟨(some 53), .cmp .gtr, [.tmp 52, .const (.int .i64 0)], none⟩,
          ⟨(some 54), .mov, [.tmp 53], none⟩,
          ⟨(some 55), .faddr 0, [.tmp 4], (some (54, true))⟩,
          ⟨(some 56), .load 1 false, [.tmp 55], (some (54, true))⟩,
          ⟨(some 57), .faddr 1, [.tmp 1], (some (54, true))⟩,
          ⟨(some 58), .load 1 false, [.tmp 57], (some (54, true))⟩,
          ⟨(some 59), .mov, [.tmp 3], (some (54, true))⟩,
          ⟨(some 60), .bin .sub .i64 false, [.tmp 59, .const (.int .i64 1)], (some (54, true))⟩,
          ⟨(some 61), .idx 8, [.tmp 58, .tmp 60], (some (54, true))⟩,
          ⟨(some 62), .faddr 0, [.tmp 61], (some (54, true))⟩,
          ⟨(some 63), .load 1 false, [.tmp 62], (some (54, true))⟩,
          ⟨(some 64), .cmp .leq, [.tmp 56, .tmp 63], (some (54, true))⟩,
          ⟨(some 65), .pick, [.tmp 54, .tmp 64, .const (.bool false)], none⟩] true)
        (.cond (.tmp 65)
          (.seq (.ops [
            ⟨(some 2), .mov, [.const (.int .i64 7)], none⟩] false)
          .ret)
          .skip))
        (.seq (.seq (.ops [
          ⟨(some 66), .load 4 true, [.tmp 1], none⟩,
          ⟨(some 67), .faddr 2, [.tmp 4], none⟩,
          ⟨(some 68), .load 1 false, [.tmp 67], none⟩,
          ⟨(some 69), .faddr 3, [.tmp 4], none⟩,
          ⟨(some 70), .load 1 false, [.tmp 69], none⟩,
          ⟨(some 71), .call 69, [.tmp 66, .tmp 68, .tmp 70], none⟩,
          ⟨(some 5), .mov, [.tmp 71], none⟩] false)
        (.seq (.ops [
          ⟨(some 72), .mov, [.tmp 5], none⟩,
          ⟨(some 73), .cmp .neq, [.tmp 72, .const (.int .i64 0)], none⟩] false)
        (.cond (.tmp 73)
          (.seq (.ops [
            ⟨(some 74), .mov, [.tmp 5], none⟩,
            ⟨(some 2), .mov, [.tmp 74], none⟩] false)
          .ret)
          .skip)))
        (.seq (.ops [
          ⟨(some 75), .load 8 true, [.tmp 4], none⟩,
          ⟨(some 76), .call 70, [.tmp 75], none⟩,
          ⟨(some 77), .not, [.tmp 76], none⟩] false)
        (.cond (.tmp 77)
          (.seq (.ops [
            ⟨(some 2), .mov, [.const (.int .i64 1)], none⟩] false)
          .ret)
          .skip)))))))
      (.ops [
        ⟨(some 11), .mov, [.tmp 3], none⟩,
        ⟨(some 12), .bin .add .i64 false, [.tmp 11, .const (.int .i64 1)], none⟩,
        ⟨(some 3), .mov, [.tmp 12], none⟩] false))))))
  (.seq (.ops [
    ⟨(some 2), .mov, [.const (.int .i64 0)], none⟩] false)
  .ret)))⟩
theorem rliftsLow : lowF Try.prog {} Try.f44 = some rliftsIr := by kernel_rfl
def rliftsS : Spec := spec Mp (fun m => [aM m]) okM (fun m => I (fe (liftE m) m.lifts.length))
set_option maxHeartbeats 2000000 in
theorem rliftsV : fnV Try.prog rliftsIr rliftsS := by
  intro (m : Mp) (hm : okM m)
  have hm' := hm
  obtain ⟨⟨n1, n2⟩, n3, n4⟩ : (m.nodes.length ≤ 9223372036854775807 ∧ m.lifts.length ≤ 9223372036854775807) ∧ m.runs.length ≤ 9223372036854775807 ∧ m.bases.length ≤ 9223372036854775807 := hm
  have hm := hm'
  have hl : (m.lifts.map encL).length = m.lifts.length := List.length_map ..
  show vc _ _ _ _ ⟨argEnv 0 [aM m], [], 0⟩
  conv => whnf
  refine ⟨Nat, fun xq => ⟨[(1, .bp 0 0), (3, I xq)], [(0, .box [L 2 (m.nodes.map encN), L 8 (m.lifts.map encL), L 7 (m.runs.map encU), L 1 (m.bases.map e1)])], 1⟩, fun xq => xq ≤ m.lifts.length ∧ fe (liftE m) xq = 0, fun xq => m.lifts.length - xq, ⟨0, ?_, [], ⟨⟨rfl, rfl⟩, ⟨⟨rfl, rfl⟩, trivial⟩⟩, ⟨⟨rfl, rfl, rfl⟩, trivial⟩, rfl, rfl, rfl⟩, ?_⟩
  · (try dsimp only); exact ⟨Nat.zero_le _, rfl⟩
  rintro k hk
  obtain ⟨hk, h0⟩ : k ≤ m.lifts.length ∧ fe (liftE m) k = 0 := hk
  (try dsimp only)
  by_cases hkl : k < m.lifts.length
  · obtain ⟨x, hx⟩ := getElem_some hkl
    have hE : liftE m k = if ¬ liftP x then 2 else if 0 < k ∧ x.id ≤ (at_ m.lifts lift0 (k - 1)).id then 7 else if risesE m x.frm x.to ≠ 0 then risesE m x.frm x.to else if ¬ carrP x then 1 else 0 := by unfold liftE; rw [at_of hx]
    cases d0 : decide (within x.id 1 9999) with
    | false =>
      repeat' ((conv => whnf); first | (refine ⟨fun h => ?_, fun h => ?_⟩ <;> try (exfalso; first | omega | exact absurd h (by decide) | exact h rfl)) | (refine ⟨by omega, fun r hrr => ?_⟩; first | ((have hre : r = encL x := by (first | exact get_row hrr hx | fail)); subst hre)) | (refine ⟨_, rin_h, (x.id, 1, 9999), trivial, leVs_of_eq rfl, .inl rfl, rfl, ?_⟩; show norm (B (decide (within (x.id) 1 9999))) _; rw [d0]) | fail | fail)
      all_goals (refine ⟨[], rfl, trivial, congrArg (CV.int .i64) ?_⟩; exact (fe_hit hkl h0 (hE.trans (if_pos fun h => of_decide_eq_false d0 h.1)) (by decide)).symm)
    | true =>
      cases d1 : decide (within x.op 1 8) with
      | false =>
        repeat' ((conv => whnf); first | (refine ⟨fun h => ?_, fun h => ?_⟩ <;> try (exfalso; first | omega | exact absurd h (by decide) | exact h rfl)) | (refine ⟨by omega, fun r hrr => ?_⟩; first | ((have hre : r = encL x := by (first | exact get_row hrr hx | fail)); subst hre)) | (refine ⟨_, rin_h, (x.id, 1, 9999), trivial, leVs_of_eq rfl, .inl rfl, rfl, ?_⟩; show norm (B (decide (within (x.id) 1 9999))) _; rw [d0]) | (refine ⟨_, rin_h, (x.op, 1, 8), trivial, leVs_of_eq rfl, .inl rfl, rfl, ?_⟩; show norm (B (decide (within (x.op) 1 8))) _; rw [d1]) | fail | fail)
        all_goals (refine ⟨[], rfl, trivial, congrArg (CV.int .i64) ?_⟩; exact (fe_hit hkl h0 (hE.trans (if_pos fun h => of_decide_eq_false d1 h.2.1)) (by decide)).symm)
      | true =>
        cases d2 : decide (within x.len 10 6000) with
        | false =>
          repeat' ((conv => whnf); first | (refine ⟨fun h => ?_, fun h => ?_⟩ <;> try (exfalso; first | omega | exact absurd h (by decide) | exact h rfl)) | (refine ⟨by omega, fun r hrr => ?_⟩; first | ((have hre : r = encL x := by (first | exact get_row hrr hx | fail)); subst hre)) | (refine ⟨_, rin_h, (x.id, 1, 9999), trivial, leVs_of_eq rfl, .inl rfl, rfl, ?_⟩; show norm (B (decide (within (x.id) 1 9999))) _; rw [d0]) | (refine ⟨_, rin_h, (x.op, 1, 8), trivial, leVs_of_eq rfl, .inl rfl, rfl, ?_⟩; show norm (B (decide (within (x.op) 1 8))) _; rw [d1]) | (refine ⟨_, rin_h, (x.len, 10, 6000), trivial, leVs_of_eq rfl, .inl rfl, rfl, ?_⟩; show norm (B (decide (within (x.len) 10 6000))) _; rw [d2]) | fail | fail)
          all_goals (refine ⟨[], rfl, trivial, congrArg (CV.int .i64) ?_⟩; exact (fe_hit hkl h0 (hE.trans (if_pos fun h => of_decide_eq_false d2 h.2.2.1)) (by decide)).symm)
        | true =>
          cases d3 : decide (within x.spd 500 12000) with
          | false =>
            repeat' ((conv => whnf); first | (refine ⟨fun h => ?_, fun h => ?_⟩ <;> try (exfalso; first | omega | exact absurd h (by decide) | exact h rfl)) | (refine ⟨by omega, fun r hrr => ?_⟩; first | ((have hre : r = encL x := by (first | exact get_row hrr hx | fail)); subst hre)) | (refine ⟨_, rin_h, (x.id, 1, 9999), trivial, leVs_of_eq rfl, .inl rfl, rfl, ?_⟩; show norm (B (decide (within (x.id) 1 9999))) _; rw [d0]) | (refine ⟨_, rin_h, (x.op, 1, 8), trivial, leVs_of_eq rfl, .inl rfl, rfl, ?_⟩; show norm (B (decide (within (x.op) 1 8))) _; rw [d1]) | (refine ⟨_, rin_h, (x.len, 10, 6000), trivial, leVs_of_eq rfl, .inl rfl, rfl, ?_⟩; show norm (B (decide (within (x.len) 10 6000))) _; rw [d2]) | (refine ⟨_, rin_h, (x.spd, 500, 12000), trivial, leVs_of_eq rfl, .inl rfl, rfl, ?_⟩; show norm (B (decide (within (x.spd) 500 12000))) _; rw [d3]) | fail | fail)
            all_goals (refine ⟨[], rfl, trivial, congrArg (CV.int .i64) ?_⟩; exact (fe_hit hkl h0 (hE.trans (if_pos fun h => of_decide_eq_false d3 h.2.2.2.1)) (by decide)).symm)
          | true =>
            cases d4 : decide (within x.seats 1 16) with
            | false =>
              repeat' ((conv => whnf); first | (refine ⟨fun h => ?_, fun h => ?_⟩ <;> try (exfalso; first | omega | exact absurd h (by decide) | exact h rfl)) | (refine ⟨by omega, fun r hrr => ?_⟩; first | ((have hre : r = encL x := by (first | exact get_row hrr hx | fail)); subst hre)) | (refine ⟨_, rin_h, (x.id, 1, 9999), trivial, leVs_of_eq rfl, .inl rfl, rfl, ?_⟩; show norm (B (decide (within (x.id) 1 9999))) _; rw [d0]) | (refine ⟨_, rin_h, (x.op, 1, 8), trivial, leVs_of_eq rfl, .inl rfl, rfl, ?_⟩; show norm (B (decide (within (x.op) 1 8))) _; rw [d1]) | (refine ⟨_, rin_h, (x.len, 10, 6000), trivial, leVs_of_eq rfl, .inl rfl, rfl, ?_⟩; show norm (B (decide (within (x.len) 10 6000))) _; rw [d2]) | (refine ⟨_, rin_h, (x.spd, 500, 12000), trivial, leVs_of_eq rfl, .inl rfl, rfl, ?_⟩; show norm (B (decide (within (x.spd) 500 12000))) _; rw [d3]) | (refine ⟨_, rin_h, (x.seats, 1, 16), trivial, leVs_of_eq rfl, .inl rfl, rfl, ?_⟩; show norm (B (decide (within (x.seats) 1 16))) _; rw [d4]) | fail | fail)
              all_goals (refine ⟨[], rfl, trivial, congrArg (CV.int .i64) ?_⟩; exact (fe_hit hkl h0 (hE.trans (if_pos fun h => of_decide_eq_false d4 h.2.2.2.2.1)) (by decide)).symm)
            | true =>
              cases d5 : decide (within x.sp 5 1000) with
              | false =>
                repeat' ((conv => whnf); first | (refine ⟨fun h => ?_, fun h => ?_⟩ <;> try (exfalso; first | omega | exact absurd h (by decide) | exact h rfl)) | (refine ⟨by omega, fun r hrr => ?_⟩; first | ((have hre : r = encL x := by (first | exact get_row hrr hx | fail)); subst hre)) | (refine ⟨_, rin_h, (x.id, 1, 9999), trivial, leVs_of_eq rfl, .inl rfl, rfl, ?_⟩; show norm (B (decide (within (x.id) 1 9999))) _; rw [d0]) | (refine ⟨_, rin_h, (x.op, 1, 8), trivial, leVs_of_eq rfl, .inl rfl, rfl, ?_⟩; show norm (B (decide (within (x.op) 1 8))) _; rw [d1]) | (refine ⟨_, rin_h, (x.len, 10, 6000), trivial, leVs_of_eq rfl, .inl rfl, rfl, ?_⟩; show norm (B (decide (within (x.len) 10 6000))) _; rw [d2]) | (refine ⟨_, rin_h, (x.spd, 500, 12000), trivial, leVs_of_eq rfl, .inl rfl, rfl, ?_⟩; show norm (B (decide (within (x.spd) 500 12000))) _; rw [d3]) | (refine ⟨_, rin_h, (x.seats, 1, 16), trivial, leVs_of_eq rfl, .inl rfl, rfl, ?_⟩; show norm (B (decide (within (x.seats) 1 16))) _; rw [d4]) | (refine ⟨_, rin_h, (x.sp, 5, 1000), trivial, leVs_of_eq rfl, .inl rfl, rfl, ?_⟩; show norm (B (decide (within (x.sp) 5 1000))) _; rw [d5]) | fail | fail)
                all_goals (refine ⟨[], rfl, trivial, congrArg (CV.int .i64) ?_⟩; exact (fe_hit hkl h0 (hE.trans (if_pos fun h => of_decide_eq_false d5 h.2.2.2.2.2)) (by decide)).symm)
              | true =>
                have hc : liftP x := ⟨of_decide_eq_true d0, of_decide_eq_true d1, of_decide_eq_true d2, of_decide_eq_true d3, of_decide_eq_true d4, of_decide_eq_true d5⟩
                have b0 := within_tt d0
                have b1 := within_tt d1
                have b2 := within_tt d2
                have b3 := within_tt d3
                have b4 := within_tt d4
                have b5 := within_tt d5
                rw [if_neg (Decidable.not_not.2 hc)] at hE
                by_cases hk0 : k = 0
                · subst hk0
                  rw [if_neg (by omega)] at hE
                  by_cases he : risesE m x.frm x.to = 0
                  · cases hd : decide (carrP x) with
                    | false =>
                      repeat' ((conv => whnf); first | (refine ⟨fun h => ?_, fun h => ?_⟩ <;> try (exfalso; first | omega | exact absurd h (by decide) | exact h rfl)) | (refine ⟨by omega, fun r hrr => ?_⟩; first | ((have hre : r = encL x := by (first | exact get_row hrr hx | fail)); subst hre)) | (refine ⟨_, rin_h, (x.id, 1, 9999), trivial, leVs_of_eq rfl, .inl rfl, rfl, ?_⟩; show norm (B (decide (within (x.id) 1 9999))) _; rw [d0]) | (refine ⟨_, rin_h, (x.op, 1, 8), trivial, leVs_of_eq rfl, .inl rfl, rfl, ?_⟩; show norm (B (decide (within (x.op) 1 8))) _; rw [d1]) | (refine ⟨_, rin_h, (x.len, 10, 6000), trivial, leVs_of_eq rfl, .inl rfl, rfl, ?_⟩; show norm (B (decide (within (x.len) 10 6000))) _; rw [d2]) | (refine ⟨_, rin_h, (x.spd, 500, 12000), trivial, leVs_of_eq rfl, .inl rfl, rfl, ?_⟩; show norm (B (decide (within (x.spd) 500 12000))) _; rw [d3]) | (refine ⟨_, rin_h, (x.seats, 1, 16), trivial, leVs_of_eq rfl, .inl rfl, rfl, ?_⟩; show norm (B (decide (within (x.seats) 1 16))) _; rw [d4]) | (refine ⟨_, rin_h, (x.sp, 5, 1000), trivial, leVs_of_eq rfl, .inl rfl, rfl, ?_⟩; show norm (B (decide (within (x.sp) 5 1000))) _; rw [d5]) | (refine ⟨_, rrises_h, (m, x.frm, x.to), hm, leVs_of_eq rfl, .inl rfl, rfl, ?_⟩; show norm (I (risesE m x.frm x.to)) _) | (refine ⟨_, rcarr_h, x, (by show (10 ≤ x.len ∧ x.len ≤ 6000) ∧ 5 ≤ x.sp ∧ x.sp ≤ 1000; omega), leVs_of_eq rfl, .inl rfl, rfl, ?_⟩; show norm (B (decide (carrP x))) _; rw [hd]) | refine ⟨⟨by omega, by omega⟩, ?_⟩ | fail | fail)
                      all_goals (refine ⟨[], rfl, trivial, congrArg (CV.int .i64) ?_⟩; exact (fe_hit hkl h0 (hE.trans ((if_neg (Decidable.not_not.2 he)).trans (if_pos (of_decide_eq_false hd)))) (by decide)).symm)
                    | true =>
                      repeat' ((conv => whnf); first | (refine ⟨fun h => ?_, fun h => ?_⟩ <;> try (exfalso; first | omega | exact absurd h (by decide) | exact h rfl)) | (refine ⟨by omega, fun r hrr => ?_⟩; first | ((have hre : r = encL x := by (first | exact get_row hrr hx | fail)); subst hre)) | (refine ⟨_, rin_h, (x.id, 1, 9999), trivial, leVs_of_eq rfl, .inl rfl, rfl, ?_⟩; show norm (B (decide (within (x.id) 1 9999))) _; rw [d0]) | (refine ⟨_, rin_h, (x.op, 1, 8), trivial, leVs_of_eq rfl, .inl rfl, rfl, ?_⟩; show norm (B (decide (within (x.op) 1 8))) _; rw [d1]) | (refine ⟨_, rin_h, (x.len, 10, 6000), trivial, leVs_of_eq rfl, .inl rfl, rfl, ?_⟩; show norm (B (decide (within (x.len) 10 6000))) _; rw [d2]) | (refine ⟨_, rin_h, (x.spd, 500, 12000), trivial, leVs_of_eq rfl, .inl rfl, rfl, ?_⟩; show norm (B (decide (within (x.spd) 500 12000))) _; rw [d3]) | (refine ⟨_, rin_h, (x.seats, 1, 16), trivial, leVs_of_eq rfl, .inl rfl, rfl, ?_⟩; show norm (B (decide (within (x.seats) 1 16))) _; rw [d4]) | (refine ⟨_, rin_h, (x.sp, 5, 1000), trivial, leVs_of_eq rfl, .inl rfl, rfl, ?_⟩; show norm (B (decide (within (x.sp) 5 1000))) _; rw [d5]) | (refine ⟨_, rrises_h, (m, x.frm, x.to), hm, leVs_of_eq rfl, .inl rfl, rfl, ?_⟩; show norm (I (risesE m x.frm x.to)) _) | (refine ⟨_, rcarr_h, x, (by show (10 ≤ x.len ∧ x.len ≤ 6000) ∧ 5 ≤ x.sp ∧ x.sp ≤ 1000; omega), leVs_of_eq rfl, .inl rfl, rfl, ?_⟩; show norm (B (decide (carrP x))) _; rw [hd]) | (refine ⟨_ + 1, ⟨?_, by (try dsimp only); omega⟩, [], ⟨⟨rfl, rfl⟩, ⟨⟨rfl, rfl⟩, trivial⟩⟩, ⟨⟨rfl, rfl, rfl⟩, trivial⟩, rfl, rfl, rfl⟩; (try dsimp only); exact ⟨by omega, fe_go h0 (hE.trans ((if_neg (Decidable.not_not.2 he)).trans (if_neg (Decidable.not_not.2 (of_decide_eq_true hd)))))⟩) | refine ⟨⟨by omega, by omega⟩, ?_⟩ | fail)
                  · repeat' ((conv => whnf); first | (refine ⟨fun h => ?_, fun h => ?_⟩ <;> try (exfalso; first | omega | exact absurd h (by decide) | exact h rfl)) | (refine ⟨by omega, fun r hrr => ?_⟩; first | ((have hre : r = encL x := by (first | exact get_row hrr hx | fail)); subst hre)) | (refine ⟨_, rin_h, (x.id, 1, 9999), trivial, leVs_of_eq rfl, .inl rfl, rfl, ?_⟩; show norm (B (decide (within (x.id) 1 9999))) _; rw [d0]) | (refine ⟨_, rin_h, (x.op, 1, 8), trivial, leVs_of_eq rfl, .inl rfl, rfl, ?_⟩; show norm (B (decide (within (x.op) 1 8))) _; rw [d1]) | (refine ⟨_, rin_h, (x.len, 10, 6000), trivial, leVs_of_eq rfl, .inl rfl, rfl, ?_⟩; show norm (B (decide (within (x.len) 10 6000))) _; rw [d2]) | (refine ⟨_, rin_h, (x.spd, 500, 12000), trivial, leVs_of_eq rfl, .inl rfl, rfl, ?_⟩; show norm (B (decide (within (x.spd) 500 12000))) _; rw [d3]) | (refine ⟨_, rin_h, (x.seats, 1, 16), trivial, leVs_of_eq rfl, .inl rfl, rfl, ?_⟩; show norm (B (decide (within (x.seats) 1 16))) _; rw [d4]) | (refine ⟨_, rin_h, (x.sp, 5, 1000), trivial, leVs_of_eq rfl, .inl rfl, rfl, ?_⟩; show norm (B (decide (within (x.sp) 5 1000))) _; rw [d5]) | (refine ⟨_, rrises_h, (m, x.frm, x.to), hm, leVs_of_eq rfl, .inl rfl, rfl, ?_⟩; show norm (I (risesE m x.frm x.to)) _) | refine ⟨⟨by omega, by omega⟩, ?_⟩ | fail | fail)
                    all_goals (refine ⟨[], rfl, trivial, congrArg (CV.int .i64) ?_⟩; exact (fe_hit hkl h0 (hE.trans (if_pos he)) he).symm)
                · obtain ⟨y, hy⟩ := getElem_some (show k - 1 < m.lifts.length by omega)
                  rw [at_of hy] at hE
                  by_cases hle : x.id ≤ y.id
                  · repeat' ((conv => whnf); first | (refine ⟨fun h => ?_, fun h => ?_⟩ <;> try (exfalso; first | omega | exact absurd h (by decide) | exact h rfl)) | (refine ⟨by omega, fun r hrr => ?_⟩; first | ((have hre : r = encL x := by (first | exact get_row hrr hx | fail)); subst hre) | ((have hre : r = encL y := by (first | exact get_rowi (j := k - 1) hrr (by omega) hy | fail)); subst hre)) | (refine ⟨_, rin_h, (x.id, 1, 9999), trivial, leVs_of_eq rfl, .inl rfl, rfl, ?_⟩; show norm (B (decide (within (x.id) 1 9999))) _; rw [d0]) | (refine ⟨_, rin_h, (x.op, 1, 8), trivial, leVs_of_eq rfl, .inl rfl, rfl, ?_⟩; show norm (B (decide (within (x.op) 1 8))) _; rw [d1]) | (refine ⟨_, rin_h, (x.len, 10, 6000), trivial, leVs_of_eq rfl, .inl rfl, rfl, ?_⟩; show norm (B (decide (within (x.len) 10 6000))) _; rw [d2]) | (refine ⟨_, rin_h, (x.spd, 500, 12000), trivial, leVs_of_eq rfl, .inl rfl, rfl, ?_⟩; show norm (B (decide (within (x.spd) 500 12000))) _; rw [d3]) | (refine ⟨_, rin_h, (x.seats, 1, 16), trivial, leVs_of_eq rfl, .inl rfl, rfl, ?_⟩; show norm (B (decide (within (x.seats) 1 16))) _; rw [d4]) | (refine ⟨_, rin_h, (x.sp, 5, 1000), trivial, leVs_of_eq rfl, .inl rfl, rfl, ?_⟩; show norm (B (decide (within (x.sp) 5 1000))) _; rw [d5]) | refine ⟨⟨by omega, by omega⟩, ?_⟩ | fail | fail)
                    all_goals (refine ⟨[], rfl, trivial, congrArg (CV.int .i64) ?_⟩; exact (fe_hit hkl h0 (hE.trans (if_pos ⟨by omega, hle⟩)) (by decide)).symm)
                  · rw [if_neg (by omega)] at hE
                    by_cases he : risesE m x.frm x.to = 0
                    · cases hd : decide (carrP x) with
                      | false =>
                        repeat' ((conv => whnf); first | (refine ⟨fun h => ?_, fun h => ?_⟩ <;> try (exfalso; first | omega | exact absurd h (by decide) | exact h rfl)) | (refine ⟨by omega, fun r hrr => ?_⟩; first | ((have hre : r = encL x := by (first | exact get_row hrr hx | fail)); subst hre) | ((have hre : r = encL y := by (first | exact get_rowi (j := k - 1) hrr (by omega) hy | fail)); subst hre)) | (refine ⟨_, rin_h, (x.id, 1, 9999), trivial, leVs_of_eq rfl, .inl rfl, rfl, ?_⟩; show norm (B (decide (within (x.id) 1 9999))) _; rw [d0]) | (refine ⟨_, rin_h, (x.op, 1, 8), trivial, leVs_of_eq rfl, .inl rfl, rfl, ?_⟩; show norm (B (decide (within (x.op) 1 8))) _; rw [d1]) | (refine ⟨_, rin_h, (x.len, 10, 6000), trivial, leVs_of_eq rfl, .inl rfl, rfl, ?_⟩; show norm (B (decide (within (x.len) 10 6000))) _; rw [d2]) | (refine ⟨_, rin_h, (x.spd, 500, 12000), trivial, leVs_of_eq rfl, .inl rfl, rfl, ?_⟩; show norm (B (decide (within (x.spd) 500 12000))) _; rw [d3]) | (refine ⟨_, rin_h, (x.seats, 1, 16), trivial, leVs_of_eq rfl, .inl rfl, rfl, ?_⟩; show norm (B (decide (within (x.seats) 1 16))) _; rw [d4]) | (refine ⟨_, rin_h, (x.sp, 5, 1000), trivial, leVs_of_eq rfl, .inl rfl, rfl, ?_⟩; show norm (B (decide (within (x.sp) 5 1000))) _; rw [d5]) | (refine ⟨_, rrises_h, (m, x.frm, x.to), hm, leVs_of_eq rfl, .inl rfl, rfl, ?_⟩; show norm (I (risesE m x.frm x.to)) _) | (refine ⟨_, rcarr_h, x, (by show (10 ≤ x.len ∧ x.len ≤ 6000) ∧ 5 ≤ x.sp ∧ x.sp ≤ 1000; omega), leVs_of_eq rfl, .inl rfl, rfl, ?_⟩; show norm (B (decide (carrP x))) _; rw [hd]) | refine ⟨⟨by omega, by omega⟩, ?_⟩ | fail | fail)
                        all_goals (refine ⟨[], rfl, trivial, congrArg (CV.int .i64) ?_⟩; exact (fe_hit hkl h0 (hE.trans ((if_neg (Decidable.not_not.2 he)).trans (if_pos (of_decide_eq_false hd)))) (by decide)).symm)
                      | true =>
                        repeat' ((conv => whnf); first | (refine ⟨fun h => ?_, fun h => ?_⟩ <;> try (exfalso; first | omega | exact absurd h (by decide) | exact h rfl)) | (refine ⟨by omega, fun r hrr => ?_⟩; first | ((have hre : r = encL x := by (first | exact get_row hrr hx | fail)); subst hre) | ((have hre : r = encL y := by (first | exact get_rowi (j := k - 1) hrr (by omega) hy | fail)); subst hre)) | (refine ⟨_, rin_h, (x.id, 1, 9999), trivial, leVs_of_eq rfl, .inl rfl, rfl, ?_⟩; show norm (B (decide (within (x.id) 1 9999))) _; rw [d0]) | (refine ⟨_, rin_h, (x.op, 1, 8), trivial, leVs_of_eq rfl, .inl rfl, rfl, ?_⟩; show norm (B (decide (within (x.op) 1 8))) _; rw [d1]) | (refine ⟨_, rin_h, (x.len, 10, 6000), trivial, leVs_of_eq rfl, .inl rfl, rfl, ?_⟩; show norm (B (decide (within (x.len) 10 6000))) _; rw [d2]) | (refine ⟨_, rin_h, (x.spd, 500, 12000), trivial, leVs_of_eq rfl, .inl rfl, rfl, ?_⟩; show norm (B (decide (within (x.spd) 500 12000))) _; rw [d3]) | (refine ⟨_, rin_h, (x.seats, 1, 16), trivial, leVs_of_eq rfl, .inl rfl, rfl, ?_⟩; show norm (B (decide (within (x.seats) 1 16))) _; rw [d4]) | (refine ⟨_, rin_h, (x.sp, 5, 1000), trivial, leVs_of_eq rfl, .inl rfl, rfl, ?_⟩; show norm (B (decide (within (x.sp) 5 1000))) _; rw [d5]) | (refine ⟨_, rrises_h, (m, x.frm, x.to), hm, leVs_of_eq rfl, .inl rfl, rfl, ?_⟩; show norm (I (risesE m x.frm x.to)) _) | (refine ⟨_, rcarr_h, x, (by show (10 ≤ x.len ∧ x.len ≤ 6000) ∧ 5 ≤ x.sp ∧ x.sp ≤ 1000; omega), leVs_of_eq rfl, .inl rfl, rfl, ?_⟩; show norm (B (decide (carrP x))) _; rw [hd]) | (refine ⟨k + 1, ⟨?_, by (try dsimp only); omega⟩, [], ⟨⟨rfl, rfl⟩, ⟨⟨rfl, rfl⟩, trivial⟩⟩, ⟨⟨rfl, rfl, rfl⟩, trivial⟩, rfl, rfl, rfl⟩; (try dsimp only); exact ⟨by omega, fe_go h0 (hE.trans ((if_neg (Decidable.not_not.2 he)).trans (if_neg (Decidable.not_not.2 (of_decide_eq_true hd)))))⟩) | refine ⟨⟨by omega, by omega⟩, ?_⟩ | fail)
                    · repeat' ((conv => whnf); first | (refine ⟨fun h => ?_, fun h => ?_⟩ <;> try (exfalso; first | omega | exact absurd h (by decide) | exact h rfl)) | (refine ⟨by omega, fun r hrr => ?_⟩; first | ((have hre : r = encL x := by (first | exact get_row hrr hx | fail)); subst hre) | ((have hre : r = encL y := by (first | exact get_rowi (j := k - 1) hrr (by omega) hy | fail)); subst hre)) | (refine ⟨_, rin_h, (x.id, 1, 9999), trivial, leVs_of_eq rfl, .inl rfl, rfl, ?_⟩; show norm (B (decide (within (x.id) 1 9999))) _; rw [d0]) | (refine ⟨_, rin_h, (x.op, 1, 8), trivial, leVs_of_eq rfl, .inl rfl, rfl, ?_⟩; show norm (B (decide (within (x.op) 1 8))) _; rw [d1]) | (refine ⟨_, rin_h, (x.len, 10, 6000), trivial, leVs_of_eq rfl, .inl rfl, rfl, ?_⟩; show norm (B (decide (within (x.len) 10 6000))) _; rw [d2]) | (refine ⟨_, rin_h, (x.spd, 500, 12000), trivial, leVs_of_eq rfl, .inl rfl, rfl, ?_⟩; show norm (B (decide (within (x.spd) 500 12000))) _; rw [d3]) | (refine ⟨_, rin_h, (x.seats, 1, 16), trivial, leVs_of_eq rfl, .inl rfl, rfl, ?_⟩; show norm (B (decide (within (x.seats) 1 16))) _; rw [d4]) | (refine ⟨_, rin_h, (x.sp, 5, 1000), trivial, leVs_of_eq rfl, .inl rfl, rfl, ?_⟩; show norm (B (decide (within (x.sp) 5 1000))) _; rw [d5]) | (refine ⟨_, rrises_h, (m, x.frm, x.to), hm, leVs_of_eq rfl, .inl rfl, rfl, ?_⟩; show norm (I (risesE m x.frm x.to)) _) | refine ⟨⟨by omega, by omega⟩, ?_⟩ | fail | fail)
                      all_goals (refine ⟨[], rfl, trivial, congrArg (CV.int .i64) ?_⟩; exact (fe_hit hkl h0 (hE.trans (if_pos he)) he).symm)
  · have hkn : k = m.lifts.length := by omega
    subst hkn
    repeat' ((conv => whnf); first | (refine ⟨fun h => ?_, fun h => ?_⟩ <;> try (exfalso; first | omega | exact absurd h (by decide) | exact h rfl)) | fail | fail)
    all_goals (refine ⟨[], rfl, trivial, congrArg (CV.int .i64) ?_⟩; exact (h0).symm)
theorem rlifts_h : Holds Try.prog 44 rliftsS := holds_of mix Try.func44 rliftsLow (fun _ => rfl) rliftsV

/-! skiarea/skiarearef10.runs -/
def rrunsIr : IFn := ⟨69, [.tmp 2],
  (.seq (.ops [
    ⟨(some 1), .box, [.tmp 0], none⟩,
    ⟨(some 2), .mov, [.const (.int .i64 0)], none⟩] false)
  (.seq (.seq (.ops [
    ⟨(some 3), .mov, [.const (.int .i64 0)], none⟩] false)
  (.block 0
    (.loop
      (.seq (.seq (.ops [
        ⟨(some 6), .mov, [.tmp 3], none⟩,
        ⟨(some 7), .faddr 2, [.tmp 1], none⟩,
        ⟨(some 8), .load 1 false, [.tmp 7], none⟩,
        ⟨(some 9), .len, [.tmp 8], none⟩,
        ⟨(some 10), .cmp .lss, [.tmp 6, .tmp 9], none⟩] false)
      (.cond (.tmp 10)
        .skip
        (.exit 0)))
      (.seq (.block 1
        (.seq (.ops [
          ⟨(some 13), .faddr 2, [.tmp 1], none⟩,
          ⟨(some 14), .load 1 false, [.tmp 13], none⟩,
          ⟨(some 15), .mov, [.tmp 3], none⟩,
          ⟨(some 16), .idx 7, [.tmp 14, .tmp 15], none⟩,
          ⟨(some 17), .load 7 true, [.tmp 16], none⟩,
          ⟨(some 4), .alloc [.int .i64 0, .int .i64 0, .int .i64 0, .int .i64 0, .int .i64 0, .int .i64 0, .int .i64 0], [], none⟩,
          ⟨none, .store 7, [.tmp 4, .tmp 17], none⟩] false)
        (.seq (.seq (.ops [
          ⟨(some 18), .faddr 0, [.tmp 4], none⟩,
          ⟨(some 19), .load 1 false, [.tmp 18], none⟩,
          ⟨(some 20), .call 68, [.tmp 19, .const (.int .i64 1), .const (.int .i64 9999)], none⟩,
          ⟨(some 21), .not, [.tmp 20], none⟩,
          ⟨(some 22), .mov, [.tmp 21], none⟩,
          ⟨(some 23), .faddr 1, [.tmp 4], (some (22, false))⟩,
          ⟨(some 24), .load 1 false, [.tmp 23], (some (22, false))⟩,
          ⟨(some 25), .call 68, [.tmp 24, .const (.int .i64 1), .const (.int .i64 8)], (some (22, false))⟩,
          ⟨(some 26), .not, [.tmp 25], (some (22, false))⟩,
          ⟨(some 27), .pick, [.tmp 22, .const (.bool true), .tmp 26], none⟩,
          ⟨(some 28), .mov, [.tmp 27], none⟩,
          ⟨(some 29), .faddr 4, [.tmp 4], (some (28, false))⟩,
          ⟨(some 30), .load 1 false, [.tmp 29], (some (28, false))⟩,
          ⟨(some 31), .call 68, [.tmp 30, .const (.int .i64 1), .const (.int .i64 4)], (some (28, false))⟩,
          ⟨(some 32), .not, [.tmp 31], (some (28, false))⟩,
          ⟨(some 33), .pick, [.tmp 28, .const (.bool true), .tmp 32], none⟩,
          ⟨(some 34), .mov, [.tmp 33], none⟩,
          ⟨(some 35), .faddr 5, [.tmp 4], (some (34, false))⟩,
          ⟨(some 36), .load 1 false, [.tmp 35], (some (34, false))⟩,
          ⟨(some 37), .call 68, [.tmp 36, .const (.int .i64 1), .const (.int .i64 32)], (some (34, false))⟩,
          ⟨(some 38), .not, [.tmp 37], (some (34, false))⟩,
          ⟨(some 39), .pick, [.tmp 34, .const (.bool true), .tmp 38], none⟩,
          ⟨(some 40), .mov, [.tmp 39], none⟩,
          ⟨(some 41), .faddr 6, [.tmp 4], (some (40, false))⟩,
          ⟨(some 42), .load 1 false, [.tmp 41], (some (40, false))⟩,
          ⟨(some 43), .call 68, [.tmp 42, .const (.int .i64 10), .const (.int .i64 20000)], (some (40, false))⟩,
          ⟨(some 44), .not, [.tmp 43], (some (40, false))⟩,
          ⟨(some 45), .pick, [.tmp 40, .const (.bool true), .tmp 44], none⟩] false)
        (.cond (.tmp 45)
          (.seq (.ops [
            ⟨(some 2), .mov, [.const (.int .i64 2)], none⟩] false)
          .ret)
          .skip))
        (.seq (.seq (.ops [
          ⟨(some 46), .mov, [.tmp 3], none⟩,
          ⟨(some 47), .cmp .gtr, [.tmp 46, .const (.int .i64 0)], none⟩,
          ⟨(some 48), .mov, [.tmp 47], none⟩,
          ⟨(some 49), .faddr 0, [.tmp 4], (some (48, true))⟩,
          ⟨(some 50), .load 1 false, [.tmp 49], (some (48, true))⟩,
          ⟨(some 51), .faddr 2, [.tmp 1], (some (48, true))⟩,
          ⟨(some 52), .load 1 false, [.tmp 51], (some (48, true))⟩,
          ⟨(some 53), .mov, [.tmp 3], (some (48, true))⟩,
          ⟨(some 54), .bin .sub .i64 false, [.tmp 53, .const (.int .i64 1)], (some (48, true))⟩,
          ⟨(some 55), .idx 7, [.tmp 52, .tmp 54], (some (48, true))⟩,
          ⟨(some 56), .faddr 0, [.tmp 55], (some (48, true))⟩,
          ⟨(some 57), .load 1 false, [.tmp 56], (some (48, true))⟩,
          ⟨(some 58), .cmp .leq, [.tmp 50, .tmp 57], (some (48, true))⟩,
          ⟨(some 59), .pick, [.tmp 48, .tmp 58, .const (.bool false)], none⟩] true)
        (.cond (.tmp 59)
          (.seq (.ops [
            ⟨(some 2), .mov, [.const (.int .i64 7)], none⟩] false)
          .ret)
          .skip))
        (.seq (.ops [
          ⟨(some 60), .load 4 true, [.tmp 1], none⟩,
          ⟨(some 61), .faddr 3, [.tmp 4], none⟩,
          ⟨(some 62), .load 1 false, [.tmp 61], none⟩,
          ⟨(some 63), .faddr 2, [.tmp 4], none⟩,
          ⟨(some 64), .load 1 false, [.tmp 63], none⟩,
          ⟨(some 65), .call 69, [.tmp 60, .tmp 62, .tmp 64], none⟩,
          ⟨(some 5), .mov, [.tmp 65], none⟩] false)
        (.seq (.ops [
          ⟨(some 66), .mov, [.tmp 5], none⟩,
          ⟨(some 67), .cmp .neq, [.tmp 66, .const (.int .i64 0)], none⟩] false)
        (.cond (.tmp 67)
          (.seq (.ops [
            ⟨(some 68), .mov, [.tmp 5], none⟩,
            ⟨(some 2), .mov, [.tmp 68], none⟩] false)
          .ret)
          .skip)))))))
      (.ops [
        ⟨(some 11), .mov, [.tmp 3], none⟩,
        ⟨(some 12), .bin .add .i64 false, [.tmp 11, .const (.int .i64 1)], none⟩,
        ⟨(some 3), .mov, [.tmp 12], none⟩] false))))))
  (.seq (.ops [
    ⟨(some 2), .mov, [.const (.int .i64 0)], none⟩] false)
  .ret)))⟩
theorem rrunsLow : lowF Try.prog {} Try.f45 = some rrunsIr := by kernel_rfl
def rrunsS : Spec := spec Mp (fun m => [aM m]) okM (fun m => I (fe (runE m) m.runs.length))
set_option maxHeartbeats 2000000 in
theorem rrunsV : fnV Try.prog rrunsIr rrunsS := by
  intro (m : Mp) (hm : okM m)
  have hm' := hm
  obtain ⟨⟨n1, n2⟩, n3, n4⟩ : (m.nodes.length ≤ 9223372036854775807 ∧ m.lifts.length ≤ 9223372036854775807) ∧ m.runs.length ≤ 9223372036854775807 ∧ m.bases.length ≤ 9223372036854775807 := hm
  have hm := hm'
  have hl : (m.runs.map encU).length = m.runs.length := List.length_map ..
  show vc _ _ _ _ ⟨argEnv 0 [aM m], [], 0⟩
  conv => whnf
  refine ⟨Nat, fun xq => ⟨[(1, .bp 0 0), (3, I xq)], [(0, .box [L 2 (m.nodes.map encN), L 8 (m.lifts.map encL), L 7 (m.runs.map encU), L 1 (m.bases.map e1)])], 1⟩, fun xq => xq ≤ m.runs.length ∧ fe (runE m) xq = 0, fun xq => m.runs.length - xq, ⟨0, ?_, [], ⟨⟨rfl, rfl⟩, ⟨⟨rfl, rfl⟩, trivial⟩⟩, ⟨⟨rfl, rfl, rfl⟩, trivial⟩, rfl, rfl, rfl⟩, ?_⟩
  · (try dsimp only); exact ⟨Nat.zero_le _, rfl⟩
  rintro k hk
  obtain ⟨hk, h0⟩ : k ≤ m.runs.length ∧ fe (runE m) k = 0 := hk
  (try dsimp only)
  by_cases hkl : k < m.runs.length
  · obtain ⟨x, hx⟩ := getElem_some hkl
    have hE : runE m k = if ¬ runP x then 2 else if 0 < k ∧ x.id ≤ (at_ m.runs run0 (k - 1)).id then 7 else risesE m x.to x.frm := by unfold runE; rw [at_of hx]
    cases d0 : decide (within x.id 1 9999) with
    | false =>
      repeat' ((conv => whnf); first | (refine ⟨fun h => ?_, fun h => ?_⟩ <;> try (exfalso; first | omega | exact absurd h (by decide) | exact h rfl)) | (refine ⟨by omega, fun r hrr => ?_⟩; first | ((have hre : r = encU x := by (first | exact get_row hrr hx | fail)); subst hre)) | (refine ⟨_, rin_h, (x.id, 1, 9999), trivial, leVs_of_eq rfl, .inl rfl, rfl, ?_⟩; show norm (B (decide (within (x.id) 1 9999))) _; rw [d0]) | fail | fail)
      all_goals (refine ⟨[], rfl, trivial, congrArg (CV.int .i64) ?_⟩; exact (fe_hit hkl h0 (hE.trans (if_pos fun h => of_decide_eq_false d0 h.1)) (by decide)).symm)
    | true =>
      cases d1 : decide (within x.op 1 8) with
      | false =>
        repeat' ((conv => whnf); first | (refine ⟨fun h => ?_, fun h => ?_⟩ <;> try (exfalso; first | omega | exact absurd h (by decide) | exact h rfl)) | (refine ⟨by omega, fun r hrr => ?_⟩; first | ((have hre : r = encU x := by (first | exact get_row hrr hx | fail)); subst hre)) | (refine ⟨_, rin_h, (x.id, 1, 9999), trivial, leVs_of_eq rfl, .inl rfl, rfl, ?_⟩; show norm (B (decide (within (x.id) 1 9999))) _; rw [d0]) | (refine ⟨_, rin_h, (x.op, 1, 8), trivial, leVs_of_eq rfl, .inl rfl, rfl, ?_⟩; show norm (B (decide (within (x.op) 1 8))) _; rw [d1]) | fail | fail)
        all_goals (refine ⟨[], rfl, trivial, congrArg (CV.int .i64) ?_⟩; exact (fe_hit hkl h0 (hE.trans (if_pos fun h => of_decide_eq_false d1 h.2.1)) (by decide)).symm)
      | true =>
        cases d2 : decide (within x.gr 1 4) with
        | false =>
          repeat' ((conv => whnf); first | (refine ⟨fun h => ?_, fun h => ?_⟩ <;> try (exfalso; first | omega | exact absurd h (by decide) | exact h rfl)) | (refine ⟨by omega, fun r hrr => ?_⟩; first | ((have hre : r = encU x := by (first | exact get_row hrr hx | fail)); subst hre)) | (refine ⟨_, rin_h, (x.id, 1, 9999), trivial, leVs_of_eq rfl, .inl rfl, rfl, ?_⟩; show norm (B (decide (within (x.id) 1 9999))) _; rw [d0]) | (refine ⟨_, rin_h, (x.op, 1, 8), trivial, leVs_of_eq rfl, .inl rfl, rfl, ?_⟩; show norm (B (decide (within (x.op) 1 8))) _; rw [d1]) | (refine ⟨_, rin_h, (x.gr, 1, 4), trivial, leVs_of_eq rfl, .inl rfl, rfl, ?_⟩; show norm (B (decide (within (x.gr) 1 4))) _; rw [d2]) | fail | fail)
          all_goals (refine ⟨[], rfl, trivial, congrArg (CV.int .i64) ?_⟩; exact (fe_hit hkl h0 (hE.trans (if_pos fun h => of_decide_eq_false d2 h.2.2.1)) (by decide)).symm)
        | true =>
          cases d3 : decide (within x.zone 1 32) with
          | false =>
            repeat' ((conv => whnf); first | (refine ⟨fun h => ?_, fun h => ?_⟩ <;> try (exfalso; first | omega | exact absurd h (by decide) | exact h rfl)) | (refine ⟨by omega, fun r hrr => ?_⟩; first | ((have hre : r = encU x := by (first | exact get_row hrr hx | fail)); subst hre)) | (refine ⟨_, rin_h, (x.id, 1, 9999), trivial, leVs_of_eq rfl, .inl rfl, rfl, ?_⟩; show norm (B (decide (within (x.id) 1 9999))) _; rw [d0]) | (refine ⟨_, rin_h, (x.op, 1, 8), trivial, leVs_of_eq rfl, .inl rfl, rfl, ?_⟩; show norm (B (decide (within (x.op) 1 8))) _; rw [d1]) | (refine ⟨_, rin_h, (x.gr, 1, 4), trivial, leVs_of_eq rfl, .inl rfl, rfl, ?_⟩; show norm (B (decide (within (x.gr) 1 4))) _; rw [d2]) | (refine ⟨_, rin_h, (x.zone, 1, 32), trivial, leVs_of_eq rfl, .inl rfl, rfl, ?_⟩; show norm (B (decide (within (x.zone) 1 32))) _; rw [d3]) | fail | fail)
            all_goals (refine ⟨[], rfl, trivial, congrArg (CV.int .i64) ?_⟩; exact (fe_hit hkl h0 (hE.trans (if_pos fun h => of_decide_eq_false d3 h.2.2.2.1)) (by decide)).symm)
          | true =>
            cases d4 : decide (within x.len 10 20000) with
            | false =>
              repeat' ((conv => whnf); first | (refine ⟨fun h => ?_, fun h => ?_⟩ <;> try (exfalso; first | omega | exact absurd h (by decide) | exact h rfl)) | (refine ⟨by omega, fun r hrr => ?_⟩; first | ((have hre : r = encU x := by (first | exact get_row hrr hx | fail)); subst hre)) | (refine ⟨_, rin_h, (x.id, 1, 9999), trivial, leVs_of_eq rfl, .inl rfl, rfl, ?_⟩; show norm (B (decide (within (x.id) 1 9999))) _; rw [d0]) | (refine ⟨_, rin_h, (x.op, 1, 8), trivial, leVs_of_eq rfl, .inl rfl, rfl, ?_⟩; show norm (B (decide (within (x.op) 1 8))) _; rw [d1]) | (refine ⟨_, rin_h, (x.gr, 1, 4), trivial, leVs_of_eq rfl, .inl rfl, rfl, ?_⟩; show norm (B (decide (within (x.gr) 1 4))) _; rw [d2]) | (refine ⟨_, rin_h, (x.zone, 1, 32), trivial, leVs_of_eq rfl, .inl rfl, rfl, ?_⟩; show norm (B (decide (within (x.zone) 1 32))) _; rw [d3]) | (refine ⟨_, rin_h, (x.len, 10, 20000), trivial, leVs_of_eq rfl, .inl rfl, rfl, ?_⟩; show norm (B (decide (within (x.len) 10 20000))) _; rw [d4]) | fail | fail)
              all_goals (refine ⟨[], rfl, trivial, congrArg (CV.int .i64) ?_⟩; exact (fe_hit hkl h0 (hE.trans (if_pos fun h => of_decide_eq_false d4 h.2.2.2.2)) (by decide)).symm)
            | true =>
              have hc : runP x := ⟨of_decide_eq_true d0, of_decide_eq_true d1, of_decide_eq_true d2, of_decide_eq_true d3, of_decide_eq_true d4⟩
              have b0 := within_tt d0
              have b1 := within_tt d1
              have b2 := within_tt d2
              have b3 := within_tt d3
              have b4 := within_tt d4
              rw [if_neg (Decidable.not_not.2 hc)] at hE
              by_cases hk0 : k = 0
              · subst hk0
                rw [if_neg (by omega)] at hE
                by_cases he : risesE m x.to x.frm = 0
                · repeat' ((conv => whnf); first | (refine ⟨fun h => ?_, fun h => ?_⟩ <;> try (exfalso; first | omega | exact absurd h (by decide) | exact h rfl)) | (refine ⟨by omega, fun r hrr => ?_⟩; first | ((have hre : r = encU x := by (first | exact get_row hrr hx | fail)); subst hre)) | (refine ⟨_, rin_h, (x.id, 1, 9999), trivial, leVs_of_eq rfl, .inl rfl, rfl, ?_⟩; show norm (B (decide (within (x.id) 1 9999))) _; rw [d0]) | (refine ⟨_, rin_h, (x.op, 1, 8), trivial, leVs_of_eq rfl, .inl rfl, rfl, ?_⟩; show norm (B (decide (within (x.op) 1 8))) _; rw [d1]) | (refine ⟨_, rin_h, (x.gr, 1, 4), trivial, leVs_of_eq rfl, .inl rfl, rfl, ?_⟩; show norm (B (decide (within (x.gr) 1 4))) _; rw [d2]) | (refine ⟨_, rin_h, (x.zone, 1, 32), trivial, leVs_of_eq rfl, .inl rfl, rfl, ?_⟩; show norm (B (decide (within (x.zone) 1 32))) _; rw [d3]) | (refine ⟨_, rin_h, (x.len, 10, 20000), trivial, leVs_of_eq rfl, .inl rfl, rfl, ?_⟩; show norm (B (decide (within (x.len) 10 20000))) _; rw [d4]) | (refine ⟨_, rrises_h, (m, x.to, x.frm), hm, leVs_of_eq rfl, .inl rfl, rfl, ?_⟩; show norm (I (risesE m x.to x.frm)) _) | (refine ⟨_ + 1, ⟨?_, by (try dsimp only); omega⟩, [], ⟨⟨rfl, rfl⟩, ⟨⟨rfl, rfl⟩, trivial⟩⟩, ⟨⟨rfl, rfl, rfl⟩, trivial⟩, rfl, rfl, rfl⟩; (try dsimp only); exact ⟨by omega, fe_go h0 (hE.trans he)⟩) | refine ⟨⟨by omega, by omega⟩, ?_⟩ | fail)
                · repeat' ((conv => whnf); first | (refine ⟨fun h => ?_, fun h => ?_⟩ <;> try (exfalso; first | omega | exact absurd h (by decide) | exact h rfl)) | (refine ⟨by omega, fun r hrr => ?_⟩; first | ((have hre : r = encU x := by (first | exact get_row hrr hx | fail)); subst hre)) | (refine ⟨_, rin_h, (x.id, 1, 9999), trivial, leVs_of_eq rfl, .inl rfl, rfl, ?_⟩; show norm (B (decide (within (x.id) 1 9999))) _; rw [d0]) | (refine ⟨_, rin_h, (x.op, 1, 8), trivial, leVs_of_eq rfl, .inl rfl, rfl, ?_⟩; show norm (B (decide (within (x.op) 1 8))) _; rw [d1]) | (refine ⟨_, rin_h, (x.gr, 1, 4), trivial, leVs_of_eq rfl, .inl rfl, rfl, ?_⟩; show norm (B (decide (within (x.gr) 1 4))) _; rw [d2]) | (refine ⟨_, rin_h, (x.zone, 1, 32), trivial, leVs_of_eq rfl, .inl rfl, rfl, ?_⟩; show norm (B (decide (within (x.zone) 1 32))) _; rw [d3]) | (refine ⟨_, rin_h, (x.len, 10, 20000), trivial, leVs_of_eq rfl, .inl rfl, rfl, ?_⟩; show norm (B (decide (within (x.len) 10 20000))) _; rw [d4]) | (refine ⟨_, rrises_h, (m, x.to, x.frm), hm, leVs_of_eq rfl, .inl rfl, rfl, ?_⟩; show norm (I (risesE m x.to x.frm)) _) | refine ⟨⟨by omega, by omega⟩, ?_⟩ | fail | fail)
                  all_goals (refine ⟨[], rfl, trivial, congrArg (CV.int .i64) ?_⟩; exact (fe_hit hkl h0 hE he).symm)
              · obtain ⟨y, hy⟩ := getElem_some (show k - 1 < m.runs.length by omega)
                rw [at_of hy] at hE
                by_cases hle : x.id ≤ y.id
                · repeat' ((conv => whnf); first | (refine ⟨fun h => ?_, fun h => ?_⟩ <;> try (exfalso; first | omega | exact absurd h (by decide) | exact h rfl)) | (refine ⟨by omega, fun r hrr => ?_⟩; first | ((have hre : r = encU x := by (first | exact get_row hrr hx | fail)); subst hre) | ((have hre : r = encU y := by (first | exact get_rowi (j := k - 1) hrr (by omega) hy | fail)); subst hre)) | (refine ⟨_, rin_h, (x.id, 1, 9999), trivial, leVs_of_eq rfl, .inl rfl, rfl, ?_⟩; show norm (B (decide (within (x.id) 1 9999))) _; rw [d0]) | (refine ⟨_, rin_h, (x.op, 1, 8), trivial, leVs_of_eq rfl, .inl rfl, rfl, ?_⟩; show norm (B (decide (within (x.op) 1 8))) _; rw [d1]) | (refine ⟨_, rin_h, (x.gr, 1, 4), trivial, leVs_of_eq rfl, .inl rfl, rfl, ?_⟩; show norm (B (decide (within (x.gr) 1 4))) _; rw [d2]) | (refine ⟨_, rin_h, (x.zone, 1, 32), trivial, leVs_of_eq rfl, .inl rfl, rfl, ?_⟩; show norm (B (decide (within (x.zone) 1 32))) _; rw [d3]) | (refine ⟨_, rin_h, (x.len, 10, 20000), trivial, leVs_of_eq rfl, .inl rfl, rfl, ?_⟩; show norm (B (decide (within (x.len) 10 20000))) _; rw [d4]) | refine ⟨⟨by omega, by omega⟩, ?_⟩ | fail | fail)
                  all_goals (refine ⟨[], rfl, trivial, congrArg (CV.int .i64) ?_⟩; exact (fe_hit hkl h0 (hE.trans (if_pos ⟨by omega, hle⟩)) (by decide)).symm)
                · rw [if_neg (by omega)] at hE
                  by_cases he : risesE m x.to x.frm = 0
                  · repeat' ((conv => whnf); first | (refine ⟨fun h => ?_, fun h => ?_⟩ <;> try (exfalso; first | omega | exact absurd h (by decide) | exact h rfl)) | (refine ⟨by omega, fun r hrr => ?_⟩; first | ((have hre : r = encU x := by (first | exact get_row hrr hx | fail)); subst hre) | ((have hre : r = encU y := by (first | exact get_rowi (j := k - 1) hrr (by omega) hy | fail)); subst hre)) | (refine ⟨_, rin_h, (x.id, 1, 9999), trivial, leVs_of_eq rfl, .inl rfl, rfl, ?_⟩; show norm (B (decide (within (x.id) 1 9999))) _; rw [d0]) | (refine ⟨_, rin_h, (x.op, 1, 8), trivial, leVs_of_eq rfl, .inl rfl, rfl, ?_⟩; show norm (B (decide (within (x.op) 1 8))) _; rw [d1]) | (refine ⟨_, rin_h, (x.gr, 1, 4), trivial, leVs_of_eq rfl, .inl rfl, rfl, ?_⟩; show norm (B (decide (within (x.gr) 1 4))) _; rw [d2]) | (refine ⟨_, rin_h, (x.zone, 1, 32), trivial, leVs_of_eq rfl, .inl rfl, rfl, ?_⟩; show norm (B (decide (within (x.zone) 1 32))) _; rw [d3]) | (refine ⟨_, rin_h, (x.len, 10, 20000), trivial, leVs_of_eq rfl, .inl rfl, rfl, ?_⟩; show norm (B (decide (within (x.len) 10 20000))) _; rw [d4]) | (refine ⟨_, rrises_h, (m, x.to, x.frm), hm, leVs_of_eq rfl, .inl rfl, rfl, ?_⟩; show norm (I (risesE m x.to x.frm)) _) | (refine ⟨k + 1, ⟨?_, by (try dsimp only); omega⟩, [], ⟨⟨rfl, rfl⟩, ⟨⟨rfl, rfl⟩, trivial⟩⟩, ⟨⟨rfl, rfl, rfl⟩, trivial⟩, rfl, rfl, rfl⟩; (try dsimp only); exact ⟨by omega, fe_go h0 (hE.trans he)⟩) | refine ⟨⟨by omega, by omega⟩, ?_⟩ | fail)
                  · repeat' ((conv => whnf); first | (refine ⟨fun h => ?_, fun h => ?_⟩ <;> try (exfalso; first | omega | exact absurd h (by decide) | exact h rfl)) | (refine ⟨by omega, fun r hrr => ?_⟩; first | ((have hre : r = encU x := by (first | exact get_row hrr hx | fail)); subst hre) | ((have hre : r = encU y := by (first | exact get_rowi (j := k - 1) hrr (by omega) hy | fail)); subst hre)) | (refine ⟨_, rin_h, (x.id, 1, 9999), trivial, leVs_of_eq rfl, .inl rfl, rfl, ?_⟩; show norm (B (decide (within (x.id) 1 9999))) _; rw [d0]) | (refine ⟨_, rin_h, (x.op, 1, 8), trivial, leVs_of_eq rfl, .inl rfl, rfl, ?_⟩; show norm (B (decide (within (x.op) 1 8))) _; rw [d1]) | (refine ⟨_, rin_h, (x.gr, 1, 4), trivial, leVs_of_eq rfl, .inl rfl, rfl, ?_⟩; show norm (B (decide (within (x.gr) 1 4))) _; rw [d2]) | (refine ⟨_, rin_h, (x.zone, 1, 32), trivial, leVs_of_eq rfl, .inl rfl, rfl, ?_⟩; show norm (B (decide (within (x.zone) 1 32))) _; rw [d3]) | (refine ⟨_, rin_h, (x.len, 10, 20000), trivial, leVs_of_eq rfl, .inl rfl, rfl, ?_⟩; show norm (B (decide (within (x.len) 10 20000))) _; rw [d4]) | (refine ⟨_, rrises_h, (m, x.to, x.frm), hm, leVs_of_eq rfl, .inl rfl, rfl, ?_⟩; show norm (I (risesE m x.to x.frm)) _) | refine ⟨⟨by omega, by omega⟩, ?_⟩ | fail | fail)
                    all_goals (refine ⟨[], rfl, trivial, congrArg (CV.int .i64) ?_⟩; exact (fe_hit hkl h0 hE he).symm)
  · have hkn : k = m.runs.length := by omega
    subst hkn
    repeat' ((conv => whnf); first | (refine ⟨fun h => ?_, fun h => ?_⟩ <;> try (exfalso; first | omega | exact absurd h (by decide) | exact h rfl)) | fail | fail)
    all_goals (refine ⟨[], rfl, trivial, congrArg (CV.int .i64) ?_⟩; exact (h0).symm)
theorem rruns_h : Holds Try.prog 45 rrunsS := holds_of mix Try.func45 rrunsLow (fun _ => rfl) rrunsV

end Go.Proofs.Ytoeichkblclfaaa
