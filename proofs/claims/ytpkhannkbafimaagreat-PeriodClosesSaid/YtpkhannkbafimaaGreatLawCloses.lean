/- PeriodCloses: Close returns the books with a closed period and the fewest postings that settle the positions, or the first error. No condition. -/
import Derived.Test.YtpkhannkbafimaaGreatST
import Derived.Test.YtpkhannkbafimaaGreatArg
namespace Go.Proofs.YtpkhannkbafimaaGreat.lawCloses
open Go.ChangeShapes Go.WideShapes Go.ChangeAt Go.RowKit Go.Deep Go.Joins
set_option linter.unusedVariables false
set_option maxRecDepth 20000

/-! skiarea/skiarealaw38.PeriodCloses -/
def lawIr : IFn := ⟨187, [.tmp 8],
 (.seq (.ops [
 ⟨(some 4), .box, [.tmp 0], none⟩,
 ⟨(some 8), .mov, [.const (.bool false)], none⟩] false)
 (.seq (.seq (.ops [
 ⟨(some 17), .call 11, [], none⟩,
 ⟨(some 18), .not, [.tmp 17], none⟩] false)
 (.cond (.tmp 18)
 (.seq (.ops [
 ⟨(some 8), .mov, [.const (.bool false)], none⟩] false)
 .ret)
 .skip))
 (.seq (.seq (.ops [
 ⟨(some 19), .load 3 true, [.tmp 4], none⟩,
 ⟨(some 20), .call 12, [.tmp 19], none⟩,
 ⟨(some 21), .not, [.tmp 20], none⟩,
 ⟨(some 22), .mov, [.tmp 21], none⟩,
 ⟨(some 23), .load 3 true, [.tmp 4], (some (22, false))⟩,
 ⟨(some 24), .call 14, [.tmp 23], (some (22, false))⟩,
 ⟨(some 25), .cmp .neq, [.tmp 24, .const (.int .i64 0)], (some (22, false))⟩,
 ⟨(some 26), .pick, [.tmp 22, .const (.bool true), .tmp 25], none⟩,
 ⟨(some 27), .mov, [.tmp 26], none⟩,
 ⟨(some 28), .mov, [.tmp 2], (some (27, false))⟩,
 ⟨(some 29), .len, [.tmp 28], (some (27, false))⟩,
 ⟨(some 30), .cmp .gtr, [.tmp 29, .const (.int .i64 12)], (some (27, false))⟩,
 ⟨(some 31), .pick, [.tmp 27, .const (.bool true), .tmp 30], none⟩,
 ⟨(some 32), .mov, [.tmp 31], none⟩,
 ⟨(some 33), .mov, [.tmp 3], (some (32, false))⟩,
 ⟨(some 34), .len, [.tmp 33], (some (32, false))⟩,
 ⟨(some 35), .cmp .gtr, [.tmp 34, .const (.int .i64 12)], (some (32, false))⟩,
 ⟨(some 36), .pick, [.tmp 32, .const (.bool true), .tmp 35], none⟩] false)
 (.cond (.tmp 36)
 (.seq (.ops [
 ⟨(some 8), .mov, [.const (.bool true)], none⟩] false)
 .ret)
 .skip))
 (.seq (.ops [
 ⟨(some 38), .load 3 true, [.tmp 4], none⟩,
 ⟨(some 39), .mov, [.tmp 1], none⟩,
 ⟨(some 40), .mov, [.tmp 2], none⟩,
 ⟨(some 41), .mov, [.tmp 3], none⟩,
 ⟨(some 42), .call 29, [.tmp 38, .tmp 39, .tmp 40, .tmp 41], none⟩,
 ⟨(some 37), .mov, [.tmp 42], none⟩,
 ⟨(some 43), .extract 0, [.tmp 37], none⟩,
 ⟨(some 44), .extract 1, [.tmp 37], none⟩,
 ⟨(some 9), .alloc [.nil, .nil, .nil], [], none⟩,
 ⟨none, .store 3, [.tmp 9, .tmp 43], none⟩,
 ⟨(some 10), .mov, [.tmp 44], none⟩] false)
 (.seq (.seq (.ops [
 ⟨(some 45), .load 3 true, [.tmp 4], none⟩,
 ⟨(some 46), .mov, [.tmp 1], none⟩,
 ⟨(some 47), .mov, [.tmp 2], none⟩,
 ⟨(some 48), .mov, [.tmp 3], none⟩,
 ⟨(some 49), .call 33, [.tmp 45, .tmp 46, .tmp 47, .tmp 48], none⟩,
 ⟨(some 11), .mov, [.tmp 49], none⟩] false)
 (.seq (.ops [
 ⟨(some 50), .mov, [.tmp 11], none⟩,
 ⟨(some 51), .cmp .neq, [.tmp 50, .const (.int .i64 0)], none⟩] false)
 (.cond (.tmp 51)
 (.seq (.ops [
 ⟨(some 52), .mov, [.tmp 10], none⟩,
 ⟨(some 53), .mov, [.tmp 11], none⟩,
 ⟨(some 54), .cmp .eql, [.tmp 52, .tmp 53], none⟩,
 ⟨(some 55), .mov, [.tmp 54], none⟩,
 ⟨(some 56), .load 3 true, [.tmp 9], (some (55, true))⟩,
 ⟨(some 57), .build [.nil, .nil, .nil] [], [], (some (55, true))⟩,
 ⟨(some 58), .call 17, [.tmp 56, .tmp 57], (some (55, true))⟩,
 ⟨(some 59), .pick, [.tmp 55, .tmp 58, .const (.bool false)], none⟩,
 ⟨(some 8), .mov, [.tmp 59], none⟩] false)
 .ret)
 .skip)))
 (.seq (.seq (.ops [
 ⟨(some 60), .faddr 1, [.tmp 4], none⟩,
 ⟨(some 61), .load 1 false, [.tmp 60], none⟩,
 ⟨(some 62), .mov, [.tmp 1], none⟩,
 ⟨(some 63), .call 28, [.tmp 61, .tmp 62], none⟩] false)
 (.cond (.tmp 63)
 (.seq (.ops [
 ⟨(some 8), .mov, [.const (.bool true)], none⟩] false)
 .ret)
 .skip))
 (.seq (.ops [
 ⟨(some 65), .load 3 true, [.tmp 4], none⟩,
 ⟨(some 66), .mov, [.tmp 1], none⟩,
 ⟨(some 67), .mov, [.tmp 2], none⟩,
 ⟨(some 68), .mov, [.tmp 3], none⟩,
 ⟨(some 69), .call 34, [.tmp 65, .tmp 66, .tmp 67, .tmp 68], none⟩,
 ⟨(some 64), .mov, [.tmp 69], none⟩,
 ⟨(some 70), .extract 0, [.tmp 64], none⟩,
 ⟨(some 71), .extract 1, [.tmp 64], none⟩,
 ⟨(some 12), .alloc [.nil, .nil, .nil], [], none⟩,
 ⟨none, .store 3, [.tmp 12, .tmp 70], none⟩,
 ⟨(some 13), .mov, [.tmp 71], none⟩] false)
 (.seq (.seq (.ops [
 ⟨(some 72), .mov, [.tmp 10], none⟩,
 ⟨(some 73), .mov, [.tmp 13], none⟩,
 ⟨(some 74), .cmp .neq, [.tmp 72, .tmp 73], none⟩,
 ⟨(some 75), .mov, [.tmp 74], none⟩,
 ⟨(some 76), .mov, [.tmp 10], (some (75, false))⟩,
 ⟨(some 77), .cmp .neq, [.tmp 76, .const (.int .i64 0)], (some (75, false))⟩,
 ⟨(some 78), .pick, [.tmp 75, .const (.bool true), .tmp 77], none⟩] false)
 (.cond (.tmp 78)
 (.seq (.ops [
 ⟨(some 79), .mov, [.tmp 10], none⟩,
 ⟨(some 80), .mov, [.tmp 13], none⟩,
 ⟨(some 81), .cmp .eql, [.tmp 79, .tmp 80], none⟩,
 ⟨(some 82), .mov, [.tmp 81], none⟩,
 ⟨(some 83), .load 3 true, [.tmp 9], (some (82, true))⟩,
 ⟨(some 84), .build [.nil, .nil, .nil] [], [], (some (82, true))⟩,
 ⟨(some 85), .call 17, [.tmp 83, .tmp 84], (some (82, true))⟩,
 ⟨(some 86), .pick, [.tmp 82, .tmp 85, .const (.bool false)], none⟩,
 ⟨(some 8), .mov, [.tmp 86], none⟩] false)
 .ret)
 .skip))
 (.seq (.seq (.ops [
 ⟨(some 87), .faddr 0, [.tmp 9], none⟩,
 ⟨(some 88), .load 1 false, [.tmp 87], none⟩,
 ⟨(some 89), .faddr 0, [.tmp 12], none⟩,
 ⟨(some 90), .load 1 false, [.tmp 89], none⟩,
 ⟨(some 91), .call 35, [.tmp 88, .tmp 90], none⟩,
 ⟨(some 92), .not, [.tmp 91], none⟩,
 ⟨(some 93), .mov, [.tmp 92], none⟩,
 ⟨(some 94), .faddr 2, [.tmp 9], (some (93, false))⟩,
 ⟨(some 95), .load 1 false, [.tmp 94], (some (93, false))⟩,
 ⟨(some 96), .faddr 2, [.tmp 12], (some (93, false))⟩,
 ⟨(some 97), .load 1 false, [.tmp 96], (some (93, false))⟩,
 ⟨(some 98), .call 36, [.tmp 95, .tmp 97], (some (93, false))⟩,
 ⟨(some 99), .not, [.tmp 98], (some (93, false))⟩,
 ⟨(some 100), .pick, [.tmp 93, .const (.bool true), .tmp 99], none⟩,
 ⟨(some 101), .mov, [.tmp 100], none⟩,
 ⟨(some 102), .faddr 1, [.tmp 9], (some (101, false))⟩,
 ⟨(some 103), .load 1 false, [.tmp 102], (some (101, false))⟩,
 ⟨(some 104), .len, [.tmp 103], (some (101, false))⟩,
 ⟨(some 105), .faddr 1, [.tmp 12], (some (101, false))⟩,
 ⟨(some 106), .load 1 false, [.tmp 105], (some (101, false))⟩,
 ⟨(some 107), .len, [.tmp 106], (some (101, false))⟩,
 ⟨(some 108), .cmp .neq, [.tmp 104, .tmp 107], (some (101, false))⟩,
 ⟨(some 109), .pick, [.tmp 101, .const (.bool true), .tmp 108], none⟩,
 ⟨(some 110), .mov, [.tmp 109], none⟩,
 ⟨(some 111), .faddr 1, [.tmp 9], (some (110, false))⟩,
 ⟨(some 112), .load 1 false, [.tmp 111], (some (110, false))⟩,
 ⟨(some 113), .faddr 1, [.tmp 4], (some (110, false))⟩,
 ⟨(some 114), .load 1 false, [.tmp 113], (some (110, false))⟩,
 ⟨(some 115), .len, [.tmp 114], (some (110, false))⟩,
 ⟨(some 116), .slice 4 false true, [.tmp 112, .tmp 115], (some (110, false))⟩,
 ⟨(some 117), .faddr 1, [.tmp 4], (some (110, false))⟩,
 ⟨(some 118), .load 1 false, [.tmp 117], (some (110, false))⟩,
 ⟨(some 119), .call 37, [.tmp 116, .tmp 118], (some (110, false))⟩,
 ⟨(some 120), .not, [.tmp 119], (some (110, false))⟩,
 ⟨(some 121), .pick, [.tmp 110, .const (.bool true), .tmp 120], none⟩] true)
 (.cond (.tmp 121)
 (.seq (.ops [
 ⟨(some 8), .mov, [.const (.bool false)], none⟩] false)
 .ret)
 .skip))
 (.seq (.ops [
 ⟨(some 123), .faddr 1, [.tmp 9], none⟩,
 ⟨(some 124), .load 1 false, [.tmp 123], none⟩,
 ⟨(some 125), .faddr 1, [.tmp 4], none⟩,
 ⟨(some 126), .load 1 false, [.tmp 125], none⟩,
 ⟨(some 127), .len, [.tmp 126], none⟩,
 ⟨(some 128), .slice 4 true false, [.tmp 124, .tmp 127], none⟩,
 ⟨(some 129), .mov, [.tmp 1], none⟩,
 ⟨(some 130), .call 38, [.tmp 128, .tmp 129], none⟩,
 ⟨(some 122), .mov, [.tmp 130], none⟩,
 ⟨(some 131), .extract 0, [.tmp 122], none⟩,
 ⟨(some 132), .extract 1, [.tmp 122], none⟩,
 ⟨(some 14), .mov, [.tmp 131], none⟩,
 ⟨(some 15), .mov, [.tmp 132], none⟩] false)
 (.seq (.seq (.ops [
 ⟨(some 16), .mov, [.const (.int .i64 1)], none⟩] false)
 (.block 0
 (.loop
 (.seq (.seq (.ops [
 ⟨(some 133), .mov, [.tmp 16], none⟩,
 ⟨(some 134), .mov, [.tmp 14], none⟩,
 ⟨(some 135), .len, [.tmp 134], none⟩,
 ⟨(some 136), .cmp .lss, [.tmp 133, .tmp 135], none⟩] false)
 (.cond (.tmp 136)
 .skip
 (.exit 0)))
 (.seq (.block 1
 (.seq (.ops [
 ⟨(some 139), .mov, [.tmp 14], none⟩,
 ⟨(some 140), .mov, [.tmp 16], none⟩,
 ⟨(some 141), .idx 3, [.tmp 139, .tmp 140], none⟩,
 ⟨(some 142), .faddr 0, [.tmp 141], none⟩,
 ⟨(some 143), .load 1 false, [.tmp 142], none⟩,
 ⟨(some 144), .mov, [.tmp 14], none⟩,
 ⟨(some 145), .mov, [.tmp 16], none⟩,
 ⟨(some 146), .bin .sub .i64 false, [.tmp 145, .const (.int .i64 1)], none⟩,
 ⟨(some 147), .idx 3, [.tmp 144, .tmp 146], none⟩,
 ⟨(some 148), .faddr 0, [.tmp 147], none⟩,
 ⟨(some 149), .load 1 false, [.tmp 148], none⟩,
 ⟨(some 150), .cmp .lss, [.tmp 143, .tmp 149], none⟩,
 ⟨(some 151), .mov, [.tmp 150], none⟩,
 ⟨(some 152), .mov, [.tmp 14], (some (151, false))⟩,
 ⟨(some 153), .mov, [.tmp 16], (some (151, false))⟩,
 ⟨(some 154), .idx 3, [.tmp 152, .tmp 153], (some (151, false))⟩,
 ⟨(some 155), .faddr 0, [.tmp 154], (some (151, false))⟩,
 ⟨(some 156), .load 1 false, [.tmp 155], (some (151, false))⟩,
 ⟨(some 157), .mov, [.tmp 14], (some (151, false))⟩,
 ⟨(some 158), .mov, [.tmp 16], (some (151, false))⟩,
 ⟨(some 159), .bin .sub .i64 false, [.tmp 158, .const (.int .i64 1)], (some (151, false))⟩,
 ⟨(some 160), .idx 3, [.tmp 157, .tmp 159], (some (151, false))⟩,
 ⟨(some 161), .faddr 0, [.tmp 160], (some (151, false))⟩,
 ⟨(some 162), .load 1 false, [.tmp 161], (some (151, false))⟩,
 ⟨(some 163), .cmp .eql, [.tmp 156, .tmp 162], (some (151, false))⟩,
 ⟨(some 164), .mov, [.tmp 163], (some (151, false))⟩,
 ⟨(some 165), .mov, [.tmp 14], (some (164, true))⟩,
 ⟨(some 166), .mov, [.tmp 16], (some (164, true))⟩,
 ⟨(some 167), .idx 3, [.tmp 165, .tmp 166], (some (164, true))⟩,
 ⟨(some 168), .faddr 1, [.tmp 167], (some (164, true))⟩,
 ⟨(some 169), .load 1 false, [.tmp 168], (some (164, true))⟩,
 ⟨(some 170), .mov, [.tmp 14], (some (164, true))⟩,
 ⟨(some 171), .mov, [.tmp 16], (some (164, true))⟩,
 ⟨(some 172), .bin .sub .i64 false, [.tmp 171, .const (.int .i64 1)], (some (164, true))⟩,
 ⟨(some 173), .idx 3, [.tmp 170, .tmp 172], (some (164, true))⟩,
 ⟨(some 174), .faddr 1, [.tmp 173], (some (164, true))⟩,
 ⟨(some 175), .load 1 false, [.tmp 174], (some (164, true))⟩,
 ⟨(some 176), .cmp .leq, [.tmp 169, .tmp 175], (some (164, true))⟩,
 ⟨(some 177), .pick, [.tmp 164, .tmp 176, .const (.bool false)], (some (151, false))⟩,
 ⟨(some 178), .pick, [.tmp 151, .const (.bool true), .tmp 177], none⟩] true)
 (.cond (.tmp 178)
 (.seq (.ops [
 ⟨(some 8), .mov, [.const (.bool false)], none⟩] false)
 .ret)
 .skip)))
 (.ops [
 ⟨(some 137), .mov, [.tmp 16], none⟩,
 ⟨(some 138), .bin .add .i64 false, [.tmp 137, .const (.int .i64 1)], none⟩,
 ⟨(some 16), .mov, [.tmp 138], none⟩] false))))))
 (.seq (.ops [
 ⟨(some 179), .mov, [.tmp 15], none⟩,
 ⟨(some 180), .mov, [.tmp 179], none⟩,
 ⟨(some 181), .mov, [.tmp 2], (some (180, true))⟩,
 ⟨(some 182), .mov, [.tmp 3], (some (180, true))⟩,
 ⟨(some 183), .call 30, [.tmp 181, .tmp 182], (some (180, true))⟩,
 ⟨(some 184), .mov, [.tmp 14], (some (180, true))⟩,
 ⟨(some 185), .call 39, [.tmp 183, .tmp 184], (some (180, true))⟩,
 ⟨(some 186), .pick, [.tmp 180, .tmp 185, .const (.bool false)], none⟩,
 ⟨(some 8), .mov, [.tmp 186], none⟩] false)
 .ret))))))))))))⟩
theorem lawLow : lowF Tryz.prog {} Tryz.f10 = some lawIr := by kernel_rfl
def lawS : Spec := spec (Bk × Int × List Share × List Share) (fun p => [aB p.1, I p.2.1, L 2 (p.2.2.1.map encS), L 2 (p.2.2.2.map encS)]) (fun p => okB p.1 ∧ p.2.2.1.length ≤ 9223372036854775807 ∧ p.2.2.2.length ≤ 9223372036854775807) (fun _ => B true)
set_option maxHeartbeats 2000000 in
theorem lawV : fnV Tryz.prog lawIr lawS := by
  intro ⟨(b : Bk), (n : Int), (due : List Share), (rec : List Share)⟩ hp
  obtain ⟨ho, hm1, hm2⟩ : okB b ∧ due.length ≤ 9223372036854775807 ∧ rec.length ≤ 9223372036854775807 := hp
  have hlp : (b.ps.map encP).length = b.ps.length := List.length_map ..
  have hlo : (b.po.map encO).length = b.po.length := List.length_map ..
  have hlr : (b.rs.map encC).length = b.rs.length := List.length_map ..
  have hld : (due.map encS).length = due.length := List.length_map ..
  have hlc : (rec.map encS).length = rec.length := List.length_map ..
  show vc _ _ _ _ ⟨argEnv 0 [aB b, I n, L 2 (due.map encS), L 2 (rec.map encS)], [], 0⟩
  by_cases hd : (FewB b ∧ due.length ≤ 12 ∧ rec.length ≤ 12) ∧ rightB b = 0
  · obtain ⟨⟨hf, h12, h13⟩, hr0⟩ := hd
    have hr := rb_of hr0
    obtain ⟨e, hE⟩ : ∃ e, askE b n due rec = e := ⟨_, rfl⟩
    by_cases he : e = 0
    · subst he
      cases ht : takenB b.po n with
      | true => repeat' ((conv => whnf); first | (refine ⟨fun h => ?_, fun h => ?_⟩ <;> try (exfalso; first | omega | exact absurd h (by decide) | exact h rfl | exact absurd (show true = false from h) (by decide) | exact absurd (show false = true from h) (by decide))) | (refine ⟨_, alive_h, (), trivial, leVs_of_eq rfl, .inl rfl, rfl, ?_⟩; show norm (B true) _) | (refine ⟨_, few_h, b, ho, leVs_of_eq rfl, .inl rfl, rfl, ?_⟩; show norm (B (decide (FewB b))) _; rw [decide_eq_true hf]) | (refine ⟨_, rRight_h, b, ho, leVs_of_eq rfl, .inl rfl, rfl, ?_⟩; show norm (I (rightB b)) _; rw [hr0]) | (refine ⟨_, close_h, (b, n, due, rec), hr.cls hm1 hm2, leVs_of_eq rfl, .inl rfl, rfl, ?_⟩; show norm (.tup [aB (clsB b n due rec), I (clsE b n due rec)]) _) | (refine ⟨_, asked_h, (b, n, due, rec), ⟨ho, hm1, hm2⟩, leVs_of_eq rfl, .inl rfl, rfl, ?_⟩; show norm (I (askE b n due rec)) _; rw [hE]) | (refine ⟨_, taken_h, (b.po, n), (by have := led_len hr.led; show b.po.length ≤ _; omega), leVs_of_eq rfl, .inl rfl, rfl, ?_⟩; show norm (B (takenB b.po n)) _; rw [ht]) | exact ⟨[], rfl, trivial, rfl⟩ | fail)
      | false =>
        have hb := both_of hr hr.sm hE hf.1.2.1 ht
        have hq := ask_yes hE
        obtain ⟨y, hY⟩ : ∃ y, clsB b n due rec = y := ⟨_, rfl⟩
        obtain ⟨z, hZ⟩ : ∃ z, rclB b n due rec = z := ⟨_, rfl⟩
        rw [hY, hZ] at hb
        have hcE := hb.e0
        have hR := posL_right hq.a1 hq.a2 hq.sum
        have hlen := hb.len
        have hlb := hb.lb
        have hpo := hb.po
        have htl := hb.tl
        have hyo : (y.po.map encO).length = y.po.length := List.length_map ..
        have hzo : (z.po.map encO).length = z.po.length := List.length_map ..
        have hTl : ((cloT due rec).map encT).length = (cloT due rec).length := List.length_map ..
        have hb0 := led_len hr.led
        have hge : b.po.length ≤ y.po.length := by rw [hpo, List.length_append]; omega
        have h64 := hr.p64
        have hlo := hq.lo
        have hhi := hq.hi
        have hsl1 : ((y.po.map encO).take ((b.po.map encO).length : Int).toNat).drop (0 : Int).toNat = b.po.map encO := by
          rw [hpo, List.map_append, Int.toNat_natCast, List.take_left]
          rfl
        have hsl2 : ((y.po.map encO).take ((y.po.map encO).length : Int).toNat).drop ((b.po.map encO).length : Int).toNat = (refsF n 0 (cloT due rec)).map encO := by
          rw [Int.toNat_natCast, Int.toNat_natCast, List.take_length, hpo, List.map_append, List.drop_left]
        repeat' ((conv => whnf); first | (refine ⟨fun h => ?_, fun h => ?_⟩ <;> try (exfalso; first | omega | exact absurd h (by decide) | exact h rfl | exact absurd (show true = false from h) (by decide) | exact absurd (show false = true from h) (by decide))) | (refine ⟨_, alive_h, (), trivial, leVs_of_eq rfl, .inl rfl, rfl, ?_⟩; show norm (B true) _) | (refine ⟨_, few_h, b, ho, leVs_of_eq rfl, .inl rfl, rfl, ?_⟩; show norm (B (decide (FewB b))) _; rw [decide_eq_true hf]) | (refine ⟨_, rRight_h, b, ho, leVs_of_eq rfl, .inl rfl, rfl, ?_⟩; show norm (I (rightB b)) _; rw [hr0]) | (refine ⟨_, close_h, (b, n, due, rec), hr.cls hm1 hm2, leVs_of_eq rfl, .inl rfl, rfl, ?_⟩; show norm (.tup [aB (clsB b n due rec), I (clsE b n due rec)]) _; rw [hY, hcE]) | (refine ⟨_, asked_h, (b, n, due, rec), ⟨ho, hm1, hm2⟩, leVs_of_eq rfl, .inl rfl, rfl, ?_⟩; show norm (I (askE b n due rec)) _; rw [hE]) | (refine ⟨_, taken_h, (b.po, n), (by have := led_len hr.led; show b.po.length ≤ _; omega), leVs_of_eq rfl, .inl rfl, rfl, ?_⟩; show norm (B (takenB b.po n)) _; rw [ht]) | (refine ⟨_, rclose_h, (b, n, due, rec), hb.rp, leVs_of_eq rfl, .inl rfl, rfl, ?_⟩; show norm (.tup [aB (rclB b n due rec), I 0]) _; rw [hZ]) | (refine ⟨_, sameP_h, (y.ps, z.ps), ⟨hb.ry.ok.1.1, hb.ry.ok.2.2⟩, leVs_of_eq rfl, .inl rfl, rfl, ?_⟩; show norm (B (decide (y.ps = z.ps))) _; rw [decide_eq_true hb.ps]) | (refine ⟨_, sameC_h, (y.rs, z.rs), hb.ry.ok.2.1, leVs_of_eq rfl, .inl rfl, rfl, ?_⟩; show norm (B (decide (y.rs = z.rs))) _; rw [decide_eq_true hb.rs]) | (refine ⟨_, sameO_h, (b.po, b.po), hr.ok.1.2, ⟨(by show leV (L 4 (((y.po.map encO).take ((b.po.map encO).length : Int).toNat).drop (0 : Int).toNat)) (L 4 (b.po.map encO)); rw [hsl1]; exact leV_refl _), leV_refl _, trivial⟩, .inl rfl, rfl, ?_⟩; show norm (B (decide (b.po = b.po))) _; rw [decide_eq_true rfl]) | (refine ⟨_, transf_h, (n, cloT due rec), ⟨⟨hlo, (by show n ≤ 1000; omega)⟩, (by show (cloT due rec).length ≤ 100; omega)⟩, ⟨(by show leV (L 4 (((y.po.map encO).take ((y.po.map encO).length : Int).toNat).drop ((b.po.map encO).length : Int).toNat)) (L 4 ((refsF n 0 (cloT due rec)).map encO)); rw [hsl2]; exact leV_refl _), leV_refl _, trivial⟩, .inl rfl, rfl, ?_⟩; show norm (.tup [L 3 ((cloT due rec).map encT), B true]) _) | refine ⟨⟨by omega, by omega⟩, ?_⟩ | (refine ⟨⟨by omega, by omega, by omega⟩, ?_⟩) | fail | fail)
        refine ⟨Nat, fun xq => ⟨[(2, L 2 (due.map encS)), (3, L 2 (rec.map encS)), (14, L 3 ((cloT due rec).map encT)), (15, B true), (16, I xq)], [(0, bB' b), (1, bB' y), (2, bB' z)], 3⟩, fun xq => 1 ≤ xq, fun xq => (cloT due rec).length - xq, ⟨1, ?_, [], ⟨⟨rfl, rfl⟩, ⟨⟨rfl, rfl⟩, ⟨⟨rfl, rfl⟩, ⟨⟨rfl, rfl⟩, ⟨⟨rfl, rfl⟩, trivial⟩⟩⟩⟩⟩, ⟨⟨rfl, rfl, rfl⟩, ⟨⟨rfl, rfl, rfl⟩, ⟨⟨rfl, rfl, rfl⟩, trivial⟩⟩⟩, rfl, rfl, rfl⟩, ?_⟩
        · (try dsimp only); exact Nat.le_refl _
        rintro k hk
        obtain hk : 1 ≤ k := hk
        (try dsimp only)
        by_cases hkl : k < (cloT due rec).length
        · obtain ⟨x, hx⟩ := getElem_some hkl
          obtain ⟨w, hw⟩ := getElem_some (show k - 1 < (cloT due rec).length by omega)
          have hin := inc_at hb.inc hk hx hw
          repeat' ((conv => whnf); first | (refine ⟨fun h => ?_, fun h => ?_⟩ <;> try (exfalso; first | omega | exact absurd h (by decide) | exact h rfl | exact absurd (show true = false from h) (by decide) | exact absurd (show false = true from h) (by decide))) | (refine ⟨by omega, fun r hrr => ?_⟩; first | ((have hre : r = encT x := by (first | exact get_row hrr hx | fail)); subst hre) | ((have hre : r = encT w := by (first | exact get_rowi (j := k - 1) hrr (by omega) hw | fail)); subst hre)) | (refine ⟨k + 1, ⟨?_, by (try dsimp only); omega⟩, [], ⟨⟨rfl, rfl⟩, ⟨⟨rfl, rfl⟩, ⟨⟨rfl, rfl⟩, ⟨⟨rfl, rfl⟩, ⟨⟨rfl, rfl⟩, trivial⟩⟩⟩⟩⟩, ⟨⟨rfl, rfl, rfl⟩, ⟨⟨rfl, rfl, rfl⟩, ⟨⟨rfl, rfl, rfl⟩, trivial⟩⟩⟩, rfl, rfl, rfl⟩; (try dsimp only); omega) | refine ⟨⟨by omega, by omega⟩, ?_⟩ | fail)
        · repeat' ((conv => whnf); first | (refine ⟨fun h => ?_, fun h => ?_⟩ <;> try (exfalso; first | omega | exact absurd h (by decide) | exact h rfl | exact absurd (show true = false from h) (by decide) | exact absurd (show false = true from h) (by decide))) | (refine ⟨_, rposit_h, (due, rec), ⟨hq.a1, hq.a2⟩, leVs_of_eq rfl, .inl rfl, rfl, ?_⟩; show norm (L 2 ((posL due rec).map encS)) _) | (refine ⟨_, valid_h, (posL due rec, cloT due rec), ⟨hR, (by show (cloT due rec).length ≤ 1000; omega)⟩, leVs_of_eq rfl, .inl rfl, rfl, ?_⟩; show norm (B (validB (posL due rec) (cloT due rec))) _; rw [hb.val]) | exact ⟨[], rfl, trivial, rfl⟩ | fail)
    · have hce := ask_no hr (by rw [hE]; exact he)
      rw [hE] at hce
      have hcb : clsB b n due rec = bk0 := by unfold clsB; rw [if_pos (by rw [hce]; exact he)]
      repeat' ((conv => whnf); first | (refine ⟨fun h => ?_, fun h => ?_⟩ <;> try (exfalso; first | omega | exact absurd h (by decide) | exact h rfl | exact absurd (show true = false from h) (by decide) | exact absurd (show false = true from h) (by decide))) | (refine ⟨_, alive_h, (), trivial, leVs_of_eq rfl, .inl rfl, rfl, ?_⟩; show norm (B true) _) | (refine ⟨_, few_h, b, ho, leVs_of_eq rfl, .inl rfl, rfl, ?_⟩; show norm (B (decide (FewB b))) _; rw [decide_eq_true hf]) | (refine ⟨_, rRight_h, b, ho, leVs_of_eq rfl, .inl rfl, rfl, ?_⟩; show norm (I (rightB b)) _; rw [hr0]) | (refine ⟨_, close_h, (b, n, due, rec), hr.cls hm1 hm2, leVs_of_eq rfl, .inl rfl, rfl, ?_⟩; show norm (.tup [aB (clsB b n due rec), I (clsE b n due rec)]) _; rw [hcb, hce]) | (refine ⟨_, asked_h, (b, n, due, rec), ⟨ho, hm1, hm2⟩, leVs_of_eq rfl, .inl rfl, rfl, ?_⟩; show norm (I (askE b n due rec)) _; rw [hE]) | (refine ⟨_, same_h, (bk0, bk0), okB0, ⟨leV_refl _, ⟨rfl, rfl, rfl, trivial⟩, trivial⟩, .inl rfl, rfl, ?_⟩; show norm (B (decide (bk0 = bk0))) _; rw [decide_eq_true rfl]) | exact ⟨[], rfl, trivial, rfl⟩ | fail)
  · cases d : decide (FewB b) with
    | false => repeat' ((conv => whnf); first | (refine ⟨fun h => ?_, fun h => ?_⟩ <;> try (exfalso; first | omega | exact absurd h (by decide) | exact h rfl | exact absurd (show true = false from h) (by decide) | exact absurd (show false = true from h) (by decide))) | (refine ⟨_, alive_h, (), trivial, leVs_of_eq rfl, .inl rfl, rfl, ?_⟩; show norm (B true) _) | (refine ⟨_, few_h, b, ho, leVs_of_eq rfl, .inl rfl, rfl, ?_⟩; show norm (B (decide (FewB b))) _; rw [d]) | exact ⟨[], rfl, trivial, rfl⟩ | fail)
    | true =>
      by_cases hd1 : due.length ≤ 12 ∧ rec.length ≤ 12
      · have hne : rightB b ≠ 0 := fun h => hd ⟨⟨of_decide_eq_true d, hd1⟩, h⟩
        repeat' ((conv => whnf); first | (refine ⟨fun h => ?_, fun h => ?_⟩ <;> try (exfalso; first | omega | exact absurd h (by decide) | exact h rfl | exact absurd (show true = false from h) (by decide) | exact absurd (show false = true from h) (by decide))) | (refine ⟨_, alive_h, (), trivial, leVs_of_eq rfl, .inl rfl, rfl, ?_⟩; show norm (B true) _) | (refine ⟨_, few_h, b, ho, leVs_of_eq rfl, .inl rfl, rfl, ?_⟩; show norm (B (decide (FewB b))) _; rw [d]) | (refine ⟨_, rRight_h, b, ho, leVs_of_eq rfl, .inl rfl, rfl, ?_⟩; show norm (I (rightB b)) _) | exact ⟨[], rfl, trivial, rfl⟩ | fail)
      · repeat' ((conv => whnf); first | (refine ⟨fun h => ?_, fun h => ?_⟩ <;> try (exfalso; first | omega | exact absurd h (by decide) | exact h rfl | exact absurd (show true = false from h) (by decide) | exact absurd (show false = true from h) (by decide))) | (refine ⟨_, alive_h, (), trivial, leVs_of_eq rfl, .inl rfl, rfl, ?_⟩; show norm (B true) _) | (refine ⟨_, few_h, b, ho, leVs_of_eq rfl, .inl rfl, rfl, ?_⟩; show norm (B (decide (FewB b))) _; rw [d]) | (refine ⟨_, rRight_h, b, ho, leVs_of_eq rfl, .inl rfl, rfl, ?_⟩; show norm (I (rightB b)) _) | exact ⟨[], rfl, trivial, rfl⟩ | fail)
theorem law_h : Holds Tryz.prog 10 lawS := holds_of mix Tryz.func10 lawLow (fun _ => rfl) lawV

/-! ### THE ROW's STEP -/
theorem own : ownKnob Tryz.prog.godebug = none := by kernel_rfl
theorem laidOut : laidOutB Tryz.prog = true := by kernel_rfl
set_option maxRecDepth 100000 in
theorem lifted (os : Os) (started : os.Started) (H : Type) (enc : TypeId × Value → H) :
    ReturnsInHanded {} Tryz.checked os 10 .any (Rows.periodClosesSpec.pre6 enc Tryz.prog Tryz.f10 Rows.periodClosesRow.domain false) (Rows.periodClosesSpec.post enc Tryz.prog Tryz.f10 false true false false) := by
  refine returnsInHanded_of_change (C := Tryz.checked) own started (by kernel_rfl) Tryz.func10
    (ChangeSpec.witness6 (enc := enc) (C := Tryz.checked) false ⟨#[], #[.agg #[.slice none 0 0, .slice none 0 0, .slice none 0 0], .int .i64 0, .slice none 0 0, .slice none 0 0], []⟩ 8 (by kernel_rfl) (by kernel_rfl) (by kernel_rfl) (by kernel_rfl)) ?_
  intro W base args ds gs before hval0 hW hcnd _
  have hval : ∀ (j : Nat) t v, Tryz.f10.params[j]? = some t → args[j]? = some v → Value.okWide Tryz.prog W .any base t v := hval0
  have hW' := hW
  obtain ⟨p, q, hA0, hV, rfl, hfz, hnd⟩ := hW
  have hA : DataW.TrodAll enc Tryz.prog W 0 (fun _ => true) true Tryz.f10.params.toList args.toList ds p := hA0
  rw [Tryz.params10] at hA hval
  obtain ⟨v0, vs0, d0, ds0, p0, q0, hargs, rfl, rfl, h0, r0⟩ := trodAll_cons hA
  obtain ⟨v1, vs1, d1, ds1, p1, q1, rfl, rfl, rfl, h1, r1⟩ := trodAll_cons r0
  obtain ⟨v2, vs2, d2, ds2, p2, q2, rfl, rfl, rfl, h2, r2⟩ := trodAll_cons r1
  obtain ⟨v3, vs3, d3, ds3, p3, q3, rfl, rfl, rfl, h3, r3⟩ := trodAll_cons r2
  obtain ⟨rfl, rfl, rfl⟩ := trodAll_nil r3
  obtain rfl : args = #[v0, v1, v2, v3] := by cases args; simp_all
  obtain ⟨rfl, rfl⟩ := trodVars_none hV
  have lt0 : ∀ x ∈ p0, x.block < W.heap.size := by obtain ⟨m, hm⟩ := h0; exact DataW.trod_lt m _ _ _ hm
  obtain ⟨z0, w0, x0⟩ := openB (hval 0 26 v0 rfl rfl) h0
  have lt1 : ∀ x ∈ p1, x.block < W.heap.size := by obtain ⟨m, hm⟩ := h1; exact DataW.trod_lt m _ _ _ hm
  obtain ⟨z1, w1, x1⟩ := open_i Tryz.underlying3 (hval 1 3 v1 rfl rfl) h1
  have lt2 : ∀ x ∈ p2, x.block < W.heap.size := by obtain ⟨m, hm⟩ := h2; exact DataW.trod_lt m _ _ _ hm
  obtain ⟨z2, w2, x2⟩ := openS (hval 2 47 v2 rfl rfl) h2
  have lt3 : ∀ x ∈ p3, x.block < W.heap.size := by obtain ⟨m, hm⟩ := h3; exact DataW.trod_lt m _ _ _ hm
  obtain ⟨z3, w3, x3⟩ := openS (hval 3 47 v3 rfl rfl) h3
  clear hA0 hval0
  refine Calls.mono (law_calls law_h (z0, z1, z2, z3) ⟨w0, w2.1, w3.1⟩ rfl (vs := [v0, v1, v2, v3]) (replist_mk x0 (replist_mk x1 (replist_mk x2 (replist_mk x3 replist_mk0))))) fun e W' ⟨he, bel⟩ => ?_
  subst he
  exact ⟨_, rfl, _, _, _, [], _, [], hW', trodAll_mk1 (shut_bool Tryz.underlying4 _), (trodAll_cons_mk (Below.trod laidOut (by kernel_rfl) (of_decide_eq_true (by kernel_rfl)) h0 bel lt0) (trodAll_cons_mk (Below.trod laidOut (by kernel_rfl) (of_decide_eq_true (by kernel_rfl)) h1 bel lt1) (trodAll_cons_mk (Below.trod laidOut (by kernel_rfl) (of_decide_eq_true (by kernel_rfl)) h2 bel lt2) (trodAll_cons_mk (Below.trod laidOut (by kernel_rfl) (of_decide_eq_true (by kernel_rfl)) h3 bel lt3) trodAll_mk0)))), rfl, bel.frame _, fun h => by cases h⟩

theorem over : Rows.periodClosesRow.holds Tryz.pinned (OpenSpec.ofChange Rows.periodClosesSpec) :=
  OpenClaim.holds_of_wide 10 Tryz.f10 rfl rfl rfl rfl rfl rfl rfl ⟨rfl, rfl, rfl, rfl, rfl⟩ rfl rfl rfl rfl rfl (by kernel_rfl) Tryz.func10 (by kernel_rfl)
    (of_decide_eq_true (by kernel_rfl)) (by unfold Func.isWrapper; first | (rw [if_pos (by decide +kernel)]; kernel_rfl) | (rw [if_neg (by decide +kernel)]; exact ⟨rfl, rfl⟩))
    (fun os started H enc _ => lifted os started H enc)

theorem proved : Rows.PeriodClosesSaid := over
end Go.Proofs.YtpkhannkbafimaaGreat.lawCloses
