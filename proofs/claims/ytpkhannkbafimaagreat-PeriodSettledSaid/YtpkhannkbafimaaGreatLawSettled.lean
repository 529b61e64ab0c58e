/- PeriodSettled: after Close the balance of the account of each operator has increased by its position. No condition. -/
import Derived.Test.YtpkhannkbafimaaGreatRO
import Derived.Test.YtpkhannkbafimaaGreatArg
namespace Go.Proofs.YtpkhannkbafimaaGreat.lawSettled
open Go.ChangeShapes Go.WideShapes Go.ChangeAt Go.RowKit Go.Deep Go.Joins
set_option linter.unusedVariables false
set_option maxRecDepth 20000

/-! skiarea/skiarealaw38.PeriodSettled -/
def lawIr : IFn := ⟨101, [.tmp 8],
  (.seq (.ops [
    ⟨(some 4), .box, [.tmp 0], none⟩,
    ⟨(some 8), .mov, [.const (.bool false)], none⟩] false)
  (.seq (.seq (.ops [
    ⟨(some 14), .call 11, [], none⟩,
    ⟨(some 15), .not, [.tmp 14], none⟩] false)
  (.cond (.tmp 15)
    (.seq (.ops [
      ⟨(some 8), .mov, [.const (.bool false)], none⟩] false)
    .ret)
    .skip))
  (.seq (.seq (.ops [
    ⟨(some 16), .load 3 true, [.tmp 4], none⟩,
    ⟨(some 17), .call 12, [.tmp 16], none⟩,
    ⟨(some 18), .not, [.tmp 17], none⟩,
    ⟨(some 19), .mov, [.tmp 18], none⟩,
    ⟨(some 20), .load 3 true, [.tmp 4], (some (19, false))⟩,
    ⟨(some 21), .call 13, [.tmp 20], (some (19, false))⟩,
    ⟨(some 22), .cmp .neq, [.tmp 21, .const (.int .i64 0)], (some (19, false))⟩,
    ⟨(some 23), .pick, [.tmp 19, .const (.bool true), .tmp 22], none⟩,
    ⟨(some 24), .mov, [.tmp 23], none⟩,
    ⟨(some 25), .mov, [.tmp 2], (some (24, false))⟩,
    ⟨(some 26), .len, [.tmp 25], (some (24, false))⟩,
    ⟨(some 27), .cmp .gtr, [.tmp 26, .const (.int .i64 12)], (some (24, false))⟩,
    ⟨(some 28), .pick, [.tmp 24, .const (.bool true), .tmp 27], none⟩,
    ⟨(some 29), .mov, [.tmp 28], none⟩,
    ⟨(some 30), .mov, [.tmp 3], (some (29, false))⟩,
    ⟨(some 31), .len, [.tmp 30], (some (29, false))⟩,
    ⟨(some 32), .cmp .gtr, [.tmp 31, .const (.int .i64 12)], (some (29, false))⟩,
    ⟨(some 33), .pick, [.tmp 29, .const (.bool true), .tmp 32], none⟩,
    ⟨(some 34), .mov, [.tmp 33], none⟩,
    ⟨(some 35), .faddr 1, [.tmp 4], (some (34, false))⟩,
    ⟨(some 36), .load 1 false, [.tmp 35], (some (34, false))⟩,
    ⟨(some 37), .mov, [.tmp 1], (some (34, false))⟩,
    ⟨(some 38), .call 28, [.tmp 36, .tmp 37], (some (34, false))⟩,
    ⟨(some 39), .pick, [.tmp 34, .const (.bool true), .tmp 38], none⟩] false)
  (.cond (.tmp 39)
    (.seq (.ops [
      ⟨(some 8), .mov, [.const (.bool true)], none⟩] false)
    .ret)
    .skip))
  (.seq (.ops [
    ⟨(some 41), .load 3 true, [.tmp 4], none⟩,
    ⟨(some 42), .mov, [.tmp 1], none⟩,
    ⟨(some 43), .mov, [.tmp 2], none⟩,
    ⟨(some 44), .mov, [.tmp 3], none⟩,
    ⟨(some 45), .call 29, [.tmp 41, .tmp 42, .tmp 43, .tmp 44], none⟩,
    ⟨(some 40), .mov, [.tmp 45], none⟩,
    ⟨(some 46), .extract 0, [.tmp 40], none⟩,
    ⟨(some 47), .extract 1, [.tmp 40], none⟩,
    ⟨(some 9), .alloc [.nil, .nil, .nil], [], none⟩,
    ⟨none, .store 3, [.tmp 9, .tmp 46], none⟩,
    ⟨(some 10), .mov, [.tmp 47], none⟩] false)
  (.seq (.seq (.ops [
    ⟨(some 48), .mov, [.tmp 10], none⟩,
    ⟨(some 49), .cmp .neq, [.tmp 48, .const (.int .i64 0)], none⟩] false)
  (.cond (.tmp 49)
    (.seq (.ops [
      ⟨(some 8), .mov, [.const (.bool true)], none⟩] false)
    .ret)
    .skip))
  (.seq (.ops [
    ⟨(some 50), .faddr 1, [.tmp 9], none⟩,
    ⟨(some 51), .load 1 false, [.tmp 50], none⟩,
    ⟨(some 52), .len, [.tmp 51], none⟩,
    ⟨(some 53), .faddr 1, [.tmp 4], none⟩,
    ⟨(some 54), .load 1 false, [.tmp 53], none⟩,
    ⟨(some 55), .len, [.tmp 54], none⟩,
    ⟨(some 56), .bin .sub .i64 false, [.tmp 52, .tmp 55], none⟩,
    ⟨(some 11), .mov, [.tmp 56], none⟩] false)
  (.seq (.ops [
    ⟨(some 57), .mov, [.tmp 2], none⟩,
    ⟨(some 58), .mov, [.tmp 3], none⟩,
    ⟨(some 59), .call 30, [.tmp 57, .tmp 58], none⟩,
    ⟨(some 12), .mov, [.tmp 59], none⟩] false)
  (.seq (.seq (.ops [
    ⟨(some 60), .mov, [.tmp 11], none⟩,
    ⟨(some 61), .cmp .lss, [.tmp 60, .const (.int .i64 0)], none⟩,
    ⟨(some 62), .mov, [.tmp 61], none⟩,
    ⟨(some 63), .mov, [.tmp 11], (some (62, false))⟩,
    ⟨(some 64), .cmp .gtr, [.tmp 63, .const (.int .i64 7)], (some (62, false))⟩,
    ⟨(some 65), .pick, [.tmp 62, .const (.bool true), .tmp 64], none⟩,
    ⟨(some 66), .mov, [.tmp 65], none⟩,
    ⟨(some 67), .mov, [.tmp 11], (some (66, false))⟩,
    ⟨(some 68), .mov, [.tmp 12], (some (66, false))⟩,
    ⟨(some 69), .call 31, [.tmp 68], (some (66, false))⟩,
    ⟨(some 70), .cmp .neq, [.tmp 67, .tmp 69], (some (66, false))⟩,
    ⟨(some 71), .pick, [.tmp 66, .const (.bool true), .tmp 70], none⟩] false)
  (.cond (.tmp 71)
    (.seq (.ops [
      ⟨(some 8), .mov, [.const (.bool false)], none⟩] false)
    .ret)
    .skip))
  (.seq (.seq (.ops [
    ⟨(some 13), .mov, [.const (.int .i64 0)], none⟩] false)
  (.block 0
    (.loop
      (.seq (.seq (.ops [
        ⟨(some 72), .mov, [.tmp 13], none⟩,
        ⟨(some 73), .mov, [.tmp 12], none⟩,
        ⟨(some 74), .len, [.tmp 73], none⟩,
        ⟨(some 75), .cmp .lss, [.tmp 72, .tmp 74], none⟩] false)
      (.cond (.tmp 75)
        .skip
        (.exit 0)))
      (.seq (.block 1
        (.seq (.ops [
          ⟨(some 78), .faddr 1, [.tmp 9], none⟩,
          ⟨(some 79), .load 1 false, [.tmp 78], none⟩,
          ⟨(some 80), .mov, [.tmp 12], none⟩,
          ⟨(some 81), .mov, [.tmp 13], none⟩,
          ⟨(some 82), .idx 2, [.tmp 80, .tmp 81], none⟩,
          ⟨(some 83), .faddr 0, [.tmp 82], none⟩,
          ⟨(some 84), .load 1 false, [.tmp 83], none⟩,
          ⟨(some 85), .call 32, [.tmp 79, .tmp 84], none⟩,
          ⟨(some 86), .faddr 1, [.tmp 4], none⟩,
          ⟨(some 87), .load 1 false, [.tmp 86], none⟩,
          ⟨(some 88), .mov, [.tmp 12], none⟩,
          ⟨(some 89), .mov, [.tmp 13], none⟩,
          ⟨(some 90), .idx 2, [.tmp 88, .tmp 89], none⟩,
          ⟨(some 91), .faddr 0, [.tmp 90], none⟩,
          ⟨(some 92), .load 1 false, [.tmp 91], none⟩,
          ⟨(some 93), .call 32, [.tmp 87, .tmp 92], none⟩,
          ⟨(some 94), .bin .sub .i64 false, [.tmp 85, .tmp 93], none⟩,
          ⟨(some 95), .mov, [.tmp 12], none⟩,
          ⟨(some 96), .mov, [.tmp 13], none⟩,
          ⟨(some 97), .idx 2, [.tmp 95, .tmp 96], none⟩,
          ⟨(some 98), .faddr 1, [.tmp 97], none⟩,
          ⟨(some 99), .load 1 false, [.tmp 98], none⟩,
          ⟨(some 100), .cmp .neq, [.tmp 94, .tmp 99], none⟩] true)
        (.cond (.tmp 100)
          (.seq (.ops [
            ⟨(some 8), .mov, [.const (.bool false)], none⟩] false)
          .ret)
          .skip)))
      (.ops [
        ⟨(some 76), .mov, [.tmp 13], none⟩,
        ⟨(some 77), .bin .add .i64 false, [.tmp 76, .const (.int .i64 1)], none⟩,
        ⟨(some 13), .mov, [.tmp 77], none⟩] false))))))
  (.seq (.ops [
    ⟨(some 8), .mov, [.const (.bool true)], none⟩] false)
  .ret))))))))))⟩
theorem lawLow : lowF Tryz.prog {} Tryz.f9 = some lawIr := by kernel_rfl
def lawS : Spec := spec (Bk × Int × List Share × List Share) (fun p => [aB p.1, I p.2.1, L 2 (p.2.2.1.map encS), L 2 (p.2.2.2.map encS)]) (fun p => okB p.1 ∧ p.2.2.1.length ≤ 9223372036854775807 ∧ p.2.2.2.length ≤ 9223372036854775807) (fun _ => B true)
set_option maxHeartbeats 2000000 in
theorem lawV : fnV Tryz.prog lawIr lawS := by
  intro ⟨(b : Bk), (n : Int), (due : List Share), (rec : List Share)⟩ hp
  obtain ⟨ho, hm1, hm2⟩ : okB b ∧ due.length ≤ 9223372036854775807 ∧ rec.length ≤ 9223372036854775807 := hp
  have hlp : (b.ps.map encP).length = b.ps.length := List.length_map ..
  have hlo : (b.po.map encO).length = b.po.length := List.length_map ..
  have hlr : (b.rs.map encC).length = b.rs.length := List.length_map ..
  have hld : (due.map encS).length = due.length := List.length_map ..
  have hlc : (rec.map encS).length = rec.length := List.length_map ..
  show vc _ _ _ _ ⟨argEnv 0 [aB b, I n, L 2 (due.map encS), L 2 (rec.map encS)], [], 0⟩
  by_cases hd : (FewB b ∧ due.length ≤ 12 ∧ rec.length ≤ 12) ∧ rightB b = 0
  · obtain ⟨⟨hf, h12, h13⟩, hr0⟩ := hd
    have hr := rb_of hr0
    cases ht : takenB b.po n with
    | true => repeat' ((conv => whnf); first | (refine ⟨fun h => ?_, fun h => ?_⟩ <;> try (exfalso; first | omega | exact absurd h (by decide) | exact h rfl | exact absurd (show true = false from h) (by decide) | exact absurd (show false = true from h) (by decide))) | (refine ⟨_, alive_h, (), trivial, leVs_of_eq rfl, .inl rfl, rfl, ?_⟩; show norm (B true) _) | (refine ⟨_, few_h, b, ho, leVs_of_eq rfl, .inl rfl, rfl, ?_⟩; show norm (B (decide (FewB b))) _; rw [decide_eq_true hf]) | (refine ⟨_, Right_h, b, ho, leVs_of_eq rfl, .inl rfl, rfl, ?_⟩; show norm (I (rightB b)) _; rw [hr0]) | (refine ⟨_, taken_h, (b.po, n), (by have := led_len hr.led; show b.po.length ≤ _; omega), leVs_of_eq rfl, .inl rfl, rfl, ?_⟩; show norm (B (takenB b.po n)) _; rw [ht]) | exact ⟨[], rfl, trivial, rfl⟩ | fail)
    | false =>
      by_cases he : clsE b n due rec = 0
      · obtain ⟨x, hc⟩ := cls_cases hr he
        have hs := set_of hr hc ht
        obtain ⟨y, hY⟩ : ∃ y, clsB b n due rec = y := ⟨_, rfl⟩
        rw [hY] at hs
        have hR := posL_right hc.a1 hc.a2 hc.sum
        obtain ⟨P, hP⟩ : ∃ P, posL due rec = P := ⟨_, rfl⟩
        have hlen := hs.len
        have hbal := hs.bal
        have hl7 := least_7 hR
        rw [hP] at hR hlen hl7 hbal
        have hP8 := hR.len
        have hlP : (P.map encS).length = P.length := List.length_map ..
        have hyo : (y.po.map encO).length = y.po.length := List.length_map ..
        have hb0 := led_len hr.led
        have hy0 := led_len hs.right.led
        have hdif : ((y.po.map encO).length : Int) - ((b.po.map encO).length : Int) = leastF P := by omega
        repeat' ((conv => whnf); first | (refine ⟨fun h => ?_, fun h => ?_⟩ <;> try (exfalso; first | omega | exact absurd h (by decide) | exact h rfl | exact absurd (show true = false from h) (by decide) | exact absurd (show false = true from h) (by decide))) | (refine ⟨_, alive_h, (), trivial, leVs_of_eq rfl, .inl rfl, rfl, ?_⟩; show norm (B true) _) | (refine ⟨_, few_h, b, ho, leVs_of_eq rfl, .inl rfl, rfl, ?_⟩; show norm (B (decide (FewB b))) _; rw [decide_eq_true hf]) | (refine ⟨_, Right_h, b, ho, leVs_of_eq rfl, .inl rfl, rfl, ?_⟩; show norm (I (rightB b)) _; rw [hr0]) | (refine ⟨_, taken_h, (b.po, n), (by have := led_len hr.led; show b.po.length ≤ _; omega), leVs_of_eq rfl, .inl rfl, rfl, ?_⟩; show norm (B (takenB b.po n)) _; rw [ht]) | (refine ⟨_, close_h, (b, n, due, rec), hr.cls hm1 hm2, leVs_of_eq rfl, .inl rfl, rfl, ?_⟩; show norm (.tup [aB (clsB b n due rec), I (clsE b n due rec)]) _; rw [he, hY]) | (refine ⟨_, rposit_h, (due, rec), ⟨hc.a1, hc.a2⟩, leVs_of_eq rfl, .inl rfl, rfl, ?_⟩; show norm (L 2 ((posL due rec).map encS)) _; rw [hP]) | (refine ⟨_, least_h, P, hR, leVs_of_eq rfl, .inl rfl, rfl, ?_⟩; show norm (I (leastF P)) _) | refine ⟨⟨by omega, by omega⟩, ?_⟩ | fail | fail)
        refine ⟨Nat, fun xq => ⟨[(4, .bp 0 0), (9, .bp 1 0), (12, L 2 (P.map encS)), (13, I xq)], [(0, bB' b), (1, bB' y)], 2⟩, fun xq => xq ≤ P.length, fun xq => P.length - xq, ⟨0, ?_, [], ⟨⟨rfl, rfl⟩, ⟨⟨rfl, rfl⟩, ⟨⟨rfl, rfl⟩, ⟨⟨rfl, rfl⟩, trivial⟩⟩⟩⟩, ⟨⟨rfl, rfl, rfl⟩, ⟨⟨rfl, rfl, rfl⟩, trivial⟩⟩, rfl, rfl, rfl⟩, ?_⟩
        · (try dsimp only); exact Nat.zero_le _
        rintro k hk
        obtain hk : k ≤ P.length := hk
        (try dsimp only)
        by_cases hkl : k < P.length
        · obtain ⟨z, hz⟩ := getElem_some hkl
          have hbz := hbal z (List.mem_of_getElem? hz)
          have hB1 := balA_bnd (led_am hs.right.led) z.o
          have hB2 := balA_bnd (led_am hr.led) z.o
          obtain ⟨u1, hu1⟩ : ∃ u, balA y.po z.o = u := ⟨_, rfl⟩
          obtain ⟨u2, hu2⟩ : ∃ u, balA b.po z.o = u := ⟨_, rfl⟩
          rw [hu1, hu2] at hbz
          rw [hu1] at hB1
          rw [hu2] at hB2
          repeat' ((conv => whnf); first | (refine ⟨fun h => ?_, fun h => ?_⟩ <;> try (exfalso; first | omega | exact absurd h (by decide) | exact h rfl | exact absurd (show true = false from h) (by decide) | exact absurd (show false = true from h) (by decide))) | (refine ⟨by omega, fun r hrr => ?_⟩; first | ((have hre : r = encS z := by (first | exact get_row hrr hz | fail)); subst hre)) | (refine ⟨_, balance_h, (y.po, z.o), (led_am hs.right.led), leVs_of_eq rfl, .inl rfl, rfl, ?_⟩; show norm (I (balA y.po z.o)) _; rw [hu1]) | (refine ⟨_, balance_h, (b.po, z.o), (led_am hr.led), leVs_of_eq rfl, .inl rfl, rfl, ?_⟩; show norm (I (balA b.po z.o)) _; rw [hu2]) | (refine ⟨k + 1, ⟨?_, by (try dsimp only); omega⟩, [], ⟨⟨rfl, rfl⟩, ⟨⟨rfl, rfl⟩, ⟨⟨rfl, rfl⟩, ⟨⟨rfl, rfl⟩, trivial⟩⟩⟩⟩, ⟨⟨rfl, rfl, rfl⟩, ⟨⟨rfl, rfl, rfl⟩, trivial⟩⟩, rfl, rfl, rfl⟩; (try dsimp only); omega) | refine ⟨⟨by omega, by omega⟩, ?_⟩ | fail)
        · repeat' ((conv => whnf); first | (refine ⟨fun h => ?_, fun h => ?_⟩ <;> try (exfalso; first | omega | exact absurd h (by decide) | exact h rfl | exact absurd (show true = false from h) (by decide) | exact absurd (show false = true from h) (by decide))) | exact ⟨[], rfl, trivial, rfl⟩ | fail)
      · repeat' ((conv => whnf); first | (refine ⟨fun h => ?_, fun h => ?_⟩ <;> try (exfalso; first | omega | exact absurd h (by decide) | exact h rfl | exact absurd (show true = false from h) (by decide) | exact absurd (show false = true from h) (by decide))) | (refine ⟨_, alive_h, (), trivial, leVs_of_eq rfl, .inl rfl, rfl, ?_⟩; show norm (B true) _) | (refine ⟨_, few_h, b, ho, leVs_of_eq rfl, .inl rfl, rfl, ?_⟩; show norm (B (decide (FewB b))) _; rw [decide_eq_true hf]) | (refine ⟨_, Right_h, b, ho, leVs_of_eq rfl, .inl rfl, rfl, ?_⟩; show norm (I (rightB b)) _; rw [hr0]) | (refine ⟨_, taken_h, (b.po, n), (by have := led_len hr.led; show b.po.length ≤ _; omega), leVs_of_eq rfl, .inl rfl, rfl, ?_⟩; show norm (B (takenB b.po n)) _; rw [ht]) | (refine ⟨_, close_h, (b, n, due, rec), hr.cls hm1 hm2, leVs_of_eq rfl, .inl rfl, rfl, ?_⟩; show norm (.tup [aB (clsB b n due rec), I (clsE b n due rec)]) _) | exact ⟨[], rfl, trivial, rfl⟩ | fail)
  · cases d : decide (FewB b) with
    | false => repeat' ((conv => whnf); first | (refine ⟨fun h => ?_, fun h => ?_⟩ <;> try (exfalso; first | omega | exact absurd h (by decide) | exact h rfl | exact absurd (show true = false from h) (by decide) | exact absurd (show false = true from h) (by decide))) | (refine ⟨_, alive_h, (), trivial, leVs_of_eq rfl, .inl rfl, rfl, ?_⟩; show norm (B true) _) | (refine ⟨_, few_h, b, ho, leVs_of_eq rfl, .inl rfl, rfl, ?_⟩; show norm (B (decide (FewB b))) _; rw [d]) | exact ⟨[], rfl, trivial, rfl⟩ | fail)
    | true =>
      by_cases hd1 : due.length ≤ 12 ∧ rec.length ≤ 12
      · have hne : rightB b ≠ 0 := fun h => hd ⟨⟨of_decide_eq_true d, hd1⟩, h⟩
        repeat' ((conv => whnf); first | (refine ⟨fun h => ?_, fun h => ?_⟩ <;> try (exfalso; first | omega | exact absurd h (by decide) | exact h rfl | exact absurd (show true = false from h) (by decide) | exact absurd (show false = true from h) (by decide))) | (refine ⟨_, alive_h, (), trivial, leVs_of_eq rfl, .inl rfl, rfl, ?_⟩; show norm (B true) _) | (refine ⟨_, few_h, b, ho, leVs_of_eq rfl, .inl rfl, rfl, ?_⟩; show norm (B (decide (FewB b))) _; rw [d]) | (refine ⟨_, Right_h, b, ho, leVs_of_eq rfl, .inl rfl, rfl, ?_⟩; show norm (I (rightB b)) _) | exact ⟨[], rfl, trivial, rfl⟩ | fail)
      · repeat' ((conv => whnf); first | (refine ⟨fun h => ?_, fun h => ?_⟩ <;> try (exfalso; first | omega | exact absurd h (by decide) | exact h rfl | exact absurd (show true = false from h) (by decide) | exact absurd (show false = true from h) (by decide))) | (refine ⟨_, alive_h, (), trivial, leVs_of_eq rfl, .inl rfl, rfl, ?_⟩; show norm (B true) _) | (refine ⟨_, few_h, b, ho, leVs_of_eq rfl, .inl rfl, rfl, ?_⟩; show norm (B (decide (FewB b))) _; rw [d]) | (refine ⟨_, Right_h, b, ho, leVs_of_eq rfl, .inl rfl, rfl, ?_⟩; show norm (I (rightB b)) _) | exact ⟨[], rfl, trivial, rfl⟩ | fail)
theorem law_h : Holds Tryz.prog 9 lawS := holds_of mix Tryz.func9 lawLow (fun _ => rfl) lawV

/-! ### THE ROW's STEP -/
theorem own : ownKnob Tryz.prog.godebug = none := by kernel_rfl
theorem laidOut : laidOutB Tryz.prog = true := by kernel_rfl
set_option maxRecDepth 100000 in
theorem lifted (os : Os) (started : os.Started) (H : Type) (enc : TypeId × Value → H) :
    ReturnsInHanded {} Tryz.checked os 9 .any (Rows.periodSettledSpec.pre6 enc Tryz.prog Tryz.f9 Rows.periodSettledRow.domain false) (Rows.periodSettledSpec.post enc Tryz.prog Tryz.f9 false true false false) := by
  refine returnsInHanded_of_change (C := Tryz.checked) own started (by kernel_rfl) Tryz.func9
    (ChangeSpec.witness6 (enc := enc) (C := Tryz.checked) false ⟨#[], #[.agg #[.slice none 0 0, .slice none 0 0, .slice none 0 0], .int .i64 0, .slice none 0 0, .slice none 0 0], []⟩ 8 (by kernel_rfl) (by kernel_rfl) (by kernel_rfl) (by kernel_rfl)) ?_
  intro W base args ds gs before hval0 hW hcnd _
  have hval : ∀ (j : Nat) t v, Tryz.f9.params[j]? = some t → args[j]? = some v → Value.okWide Tryz.prog W .any base t v := hval0
  have hW' := hW
  obtain ⟨p, q, hA0, hV, rfl, hfz, hnd⟩ := hW
  have hA : DataW.TrodAll enc Tryz.prog W 0 (fun _ => true) true Tryz.f9.params.toList args.toList ds p := hA0
  rw [Tryz.params9] at hA hval
  obtain ⟨v0, vs0, d0, ds0, p0, q0, hargs, rfl, rfl, h0, r0⟩ := trodAll_cons hA
  obtain ⟨v1, vs1, d1, ds1, p1, q1, rfl, rfl, rfl, h1, r1⟩ := trodAll_cons r0
  obtain ⟨v2, vs2, d2, ds2, p2, q2, rfl, rfl, rfl, h2, r2⟩ := trodAll_cons r1
  obtain ⟨v3, vs3, d3, ds3, p3, q3, rfl, rfl, rfl, h3, r3⟩ := trodAll_cons r2
  obtain ⟨rfl, rfl, rfl⟩ := trodAll_nil r3
  obtain rfl : args = #[v0, v1, v2, v3] := by cases args; simp_all
  obtain ⟨rfl, rfl⟩ := trodVars_none hV
  have lt0 : ∀ x ∈ p0, x.block < W.heap.size := by obtain ⟨m, hm⟩ := h0; exact DataW.trod_lt m _ _ _ hm
  obtain ⟨z0, w0, x0⟩ := openB (hval 0 26 v0 rfl rfl) h0
  have lt1 : ∀ x ∈ p1, x.block < W.heap.size := by obtain ⟨m, hm⟩ := h1; exact DataW.trod_lt m _ _ _ hm
  obtain ⟨z1, w1, x1⟩ := open_i Tryz.underlying3 (hval 1 3 v1 rfl rfl) h1
  have lt2 : ∀ x ∈ p2, x.block < W.heap.size := by obtain ⟨m, hm⟩ := h2; exact DataW.trod_lt m _ _ _ hm
  obtain ⟨z2, w2, x2⟩ := openS (hval 2 47 v2 rfl rfl) h2
  have lt3 : ∀ x ∈ p3, x.block < W.heap.size := by obtain ⟨m, hm⟩ := h3; exact DataW.trod_lt m _ _ _ hm
  obtain ⟨z3, w3, x3⟩ := openS (hval 3 47 v3 rfl rfl) h3
  clear hA0 hval0
  refine Calls.mono (law_calls law_h (z0, z1, z2, z3) ⟨w0, w2.1, w3.1⟩ rfl (vs := [v0, v1, v2, v3]) (replist_mk x0 (replist_mk x1 (replist_mk x2 (replist_mk x3 replist_mk0))))) fun e W' ⟨he, bel⟩ => ?_
  subst he
  exact ⟨_, rfl, _, _, _, [], _, [], hW', trodAll_mk1 (shut_bool Tryz.underlying4 _), (trodAll_cons_mk (Below.trod laidOut (by kernel_rfl) (of_decide_eq_true (by kernel_rfl)) h0 bel lt0) (trodAll_cons_mk (Below.trod laidOut (by kernel_rfl) (of_decide_eq_true (by kernel_rfl)) h1 bel lt1) (trodAll_cons_mk (Below.trod laidOut (by kernel_rfl) (of_decide_eq_true (by kernel_rfl)) h2 bel lt2) (trodAll_cons_mk (Below.trod laidOut (by kernel_rfl) (of_decide_eq_true (by kernel_rfl)) h3 bel lt3) trodAll_mk0)))), rfl, bel.frame _, fun h => by cases h⟩

theorem over : Rows.periodSettledRow.holds Tryz.pinned (OpenSpec.ofChange Rows.periodSettledSpec) :=
  OpenClaim.holds_of_wide 9 Tryz.f9 rfl rfl rfl rfl rfl rfl rfl ⟨rfl, rfl, rfl, rfl, rfl⟩ rfl rfl rfl rfl rfl (by kernel_rfl) Tryz.func9 (by kernel_rfl)
    (of_decide_eq_true (by kernel_rfl)) (by unfold Func.isWrapper; first | (rw [if_pos (by decide +kernel)]; kernel_rfl) | (rw [if_neg (by decide +kernel)]; exact ⟨rfl, rfl⟩))
    (fun os started H enc _ => lifted os started H enc)

theorem proved : Rows.PeriodSettledSaid := over
end Go.Proofs.YtpkhannkbafimaaGreat.lawSettled
