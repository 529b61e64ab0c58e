/- RevenueWhole: the shares of any sale are what was paid, in proportion to the points. No condition. -/
import Derived.Test.YtbglmocgijlomaaArg
import Derived.Test.YtbglmocgijlomaaTU
namespace Go.Proofs.Ytbglmocgijlomaa.lawWhole
open Go.ChangeShapes Go.WideShapes Go.ChangeAt Go.RowKit Go.Deep Go.Joins
set_option linter.unusedVariables false
set_option maxRecDepth 20000

/-! skiarea/skiarealaw35.RevenueWhole -/
def lawIr : IFn := ⟨122, [.tmp 4],
  (.seq (.ops [
    ⟨(some 2), .box, [.tmp 0], none⟩,
    ⟨(some 3), .box, [.tmp 1], none⟩,
    ⟨(some 4), .mov, [.const (.bool false)], none⟩] false)
  (.seq (.seq (.ops [
    ⟨(some 13), .call 10, [], none⟩,
    ⟨(some 14), .not, [.tmp 13], none⟩] false)
  (.cond (.tmp 14)
    (.seq (.ops [
      ⟨(some 4), .mov, [.const (.bool false)], none⟩] false)
    .ret)
    .skip))
  (.seq (.seq (.ops [
    ⟨(some 15), .load 6 true, [.tmp 2], none⟩,
    ⟨(some 16), .call 13, [.tmp 15], none⟩,
    ⟨(some 17), .not, [.tmp 16], none⟩,
    ⟨(some 18), .mov, [.tmp 17], none⟩,
    ⟨(some 19), .load 6 true, [.tmp 3], (some (18, false))⟩,
    ⟨(some 20), .buildSl 42 6, [.tmp 19], (some (18, false))⟩,
    ⟨(some 21), .call 11, [.tmp 20], (some (18, false))⟩,
    ⟨(some 22), .cmp .neq, [.tmp 21, .const (.int .i64 0)], (some (18, false))⟩,
    ⟨(some 23), .pick, [.tmp 18, .const (.bool true), .tmp 22], none⟩] false)
  (.cond (.tmp 23)
    (.seq (.ops [
      ⟨(some 4), .mov, [.const (.bool true)], none⟩] false)
    .ret)
    .skip))
  (.seq (.ops [
    ⟨(some 24), .faddr 0, [.tmp 2], none⟩,
    ⟨(some 25), .load 4 true, [.tmp 24], none⟩,
    ⟨(some 26), .faddr 4, [.tmp 2], none⟩,
    ⟨(some 27), .load 1 false, [.tmp 26], none⟩,
    ⟨(some 28), .faddr 5, [.tmp 2], none⟩,
    ⟨(some 29), .load 1 false, [.tmp 28], none⟩,
    ⟨(some 30), .load 6 true, [.tmp 3], none⟩,
    ⟨(some 31), .call 18, [.tmp 25, .tmp 27, .tmp 29, .tmp 30], none⟩,
    ⟨(some 5), .mov, [.tmp 31], none⟩] false)
  (.seq (.ops [
    ⟨(some 33), .mov, [.tmp 5], none⟩,
    ⟨(some 34), .call 22, [.tmp 33], none⟩,
    ⟨(some 32), .mov, [.tmp 34], none⟩,
    ⟨(some 35), .extract 0, [.tmp 32], none⟩,
    ⟨(some 36), .extract 1, [.tmp 32], none⟩,
    ⟨(some 6), .mov, [.tmp 35], none⟩,
    ⟨(some 7), .mov, [.tmp 36], none⟩] false)
  (.seq (.seq (.ops [
    ⟨(some 37), .mov, [.tmp 7], none⟩,
    ⟨(some 38), .not, [.tmp 37], none⟩,
    ⟨(some 39), .mov, [.tmp 38], none⟩,
    ⟨(some 40), .mov, [.tmp 6], (some (39, false))⟩,
    ⟨(some 41), .faddr 4, [.tmp 3], (some (39, false))⟩,
    ⟨(some 42), .load 1 false, [.tmp 41], (some (39, false))⟩,
    ⟨(some 43), .cmp .neq, [.tmp 40, .tmp 42], (some (39, false))⟩,
    ⟨(some 44), .pick, [.tmp 39, .const (.bool true), .tmp 43], none⟩] false)
  (.cond (.tmp 44)
    (.seq (.ops [
      ⟨(some 4), .mov, [.const (.bool false)], none⟩] false)
    .ret)
    .skip))
  (.seq (.ops [
    ⟨(some 45), .faddr 0, [.tmp 2], none⟩,
    ⟨(some 46), .load 4 true, [.tmp 45], none⟩,
    ⟨(some 47), .faddr 4, [.tmp 2], none⟩,
    ⟨(some 48), .load 1 false, [.tmp 47], none⟩,
    ⟨(some 49), .faddr 5, [.tmp 2], none⟩,
    ⟨(some 50), .load 1 false, [.tmp 49], none⟩,
    ⟨(some 51), .faddr 0, [.tmp 3], none⟩,
    ⟨(some 52), .load 1 false, [.tmp 51], none⟩,
    ⟨(some 53), .call 15, [.tmp 46, .tmp 48, .tmp 50, .tmp 52], none⟩,
    ⟨(some 8), .mov, [.tmp 53], none⟩] false)
  (.seq (.seq (.ops [
    ⟨(some 54), .mov, [.tmp 8], none⟩,
    ⟨(some 55), .len, [.tmp 54], none⟩,
    ⟨(some 56), .cmp .neq, [.tmp 55, .const (.int .i64 8)], none⟩] false)
  (.cond (.tmp 56)
    (.seq (.ops [
      ⟨(some 4), .mov, [.const (.bool false)], none⟩] false)
    .ret)
    .skip))
  (.seq (.ops [
    ⟨(some 9), .mov, [.const (.int .i64 0)], none⟩] false)
  (.seq (.ops [
    ⟨(some 57), .mksl 3 1 8 [.int .i64 0], [.const (.int .i64 8), .const (.int .i64 8)], none⟩,
    ⟨(some 10), .mov, [.tmp 57], none⟩] false)
  (.seq (.seq (.ops [
    ⟨(some 11), .mov, [.const (.int .i64 0)], none⟩] false)
  (.block 0
    (.loop
      (.seq (.seq (.ops [
        ⟨(some 58), .mov, [.tmp 11], none⟩,
        ⟨(some 59), .mov, [.tmp 8], none⟩,
        ⟨(some 60), .len, [.tmp 59], none⟩,
        ⟨(some 61), .cmp .lss, [.tmp 58, .tmp 60], none⟩] false)
      (.cond (.tmp 61)
        .skip
        (.exit 0)))
      (.seq (.block 1
        (.ops [
          ⟨(some 64), .mov, [.tmp 9], none⟩,
          ⟨(some 65), .mov, [.tmp 8], none⟩,
          ⟨(some 66), .mov, [.tmp 11], none⟩,
          ⟨(some 67), .idx 1, [.tmp 65, .tmp 66], none⟩,
          ⟨(some 68), .load 1 false, [.tmp 67], none⟩,
          ⟨(some 69), .bin .add .i64 false, [.tmp 64, .tmp 68], none⟩,
          ⟨(some 9), .mov, [.tmp 69], none⟩] false))
      (.ops [
        ⟨(some 62), .mov, [.tmp 11], none⟩,
        ⟨(some 63), .bin .add .i64 false, [.tmp 62, .const (.int .i64 1)], none⟩,
        ⟨(some 11), .mov, [.tmp 63], none⟩] false))))))
  (.seq (.seq (.ops [
    ⟨(some 12), .mov, [.const (.int .i64 0)], none⟩] false)
  (.block 2
    (.loop
      (.seq (.seq (.ops [
        ⟨(some 70), .mov, [.tmp 12], none⟩,
        ⟨(some 71), .mov, [.tmp 5], none⟩,
        ⟨(some 72), .len, [.tmp 71], none⟩,
        ⟨(some 73), .cmp .lss, [.tmp 70, .tmp 72], none⟩] false)
      (.cond (.tmp 73)
        .skip
        (.exit 2)))
      (.seq (.block 3
        (.ops [
          ⟨(some 76), .mov, [.tmp 10], none⟩,
          ⟨(some 77), .mov, [.tmp 5], none⟩,
          ⟨(some 78), .mov, [.tmp 12], none⟩,
          ⟨(some 79), .idx 2, [.tmp 77, .tmp 78], none⟩,
          ⟨(some 80), .faddr 0, [.tmp 79], none⟩,
          ⟨(some 81), .load 1 false, [.tmp 80], none⟩,
          ⟨(some 82), .bin .sub .i64 false, [.tmp 81, .const (.int .i64 1)], none⟩,
          ⟨(some 83), .mov, [.tmp 5], none⟩,
          ⟨(some 84), .mov, [.tmp 12], none⟩,
          ⟨(some 85), .idx 2, [.tmp 83, .tmp 84], none⟩,
          ⟨(some 86), .faddr 1, [.tmp 85], none⟩,
          ⟨(some 87), .load 1 false, [.tmp 86], none⟩,
          ⟨(some 88), .idx 1, [.tmp 76, .tmp 82], none⟩,
          ⟨none, .store 1, [.tmp 88, .tmp 87], none⟩] true))
      (.ops [
        ⟨(some 74), .mov, [.tmp 12], none⟩,
        ⟨(some 75), .bin .add .i64 false, [.tmp 74, .const (.int .i64 1)], none⟩,
        ⟨(some 12), .mov, [.tmp 75], none⟩] false))))))
  (.seq (.seq (.ops [
    ⟨(some 89), .mov, [.tmp 9], none⟩,
    ⟨(some 90), .cmp .eql, [.tmp 89, .const (.int .i64 0)], none⟩] false)
  (.cond (.tmp 90)
    (.seq (.ops [
      ⟨(some 91), .mov, [.tmp 10], none⟩,
      ⟨(some 92), .faddr 2, [.tmp 3], none⟩,
      ⟨(some 93), .load 1 false, [.tmp 92], none⟩,
      ⟨(some 94), .bin .sub .i64 false, [.tmp 93, .const (.int .i64 1)], none⟩,
      ⟨(some 95), .idx 1, [.tmp 91, .tmp 94], none⟩,
      ⟨(some 96), .load 1 false, [.tmp 95], none⟩,
      ⟨(some 97), .faddr 4, [.tmp 3], none⟩,
      ⟨(some 98), .load 1 false, [.tmp 97], none⟩,
      ⟨(some 99), .cmp .eql, [.tmp 96, .tmp 98], none⟩,
      ⟨(some 4), .mov, [.tmp 99], none⟩] true)
    .ret)
    .skip))
  (.seq (.ops [
    ⟨(some 100), .mov, [.tmp 10], none⟩,
    ⟨(some 101), .faddr 2, [.tmp 3], none⟩,
    ⟨(some 102), .load 1 false, [.tmp 101], none⟩,
    ⟨(some 103), .bin .sub .i64 false, [.tmp 102, .const (.int .i64 1)], none⟩,
    ⟨(some 104), .mov, [.tmp 10], none⟩,
    ⟨(some 105), .faddr 2, [.tmp 3], none⟩,
    ⟨(some 106), .load 1 false, [.tmp 105], none⟩,
    ⟨(some 107), .bin .sub .i64 false, [.tmp 106, .const (.int .i64 1)], none⟩,
    ⟨(some 108), .idx 1, [.tmp 104, .tmp 107], none⟩,
    ⟨(some 109), .load 1 false, [.tmp 108], none⟩,
    ⟨(some 110), .faddr 5, [.tmp 3], none⟩,
    ⟨(some 111), .load 1 false, [.tmp 110], none⟩,
    ⟨(some 112), .bin .sub .i64 false, [.tmp 109, .tmp 111], none⟩,
    ⟨(some 113), .idx 1, [.tmp 100, .tmp 103], none⟩,
    ⟨none, .store 1, [.tmp 113, .tmp 112], none⟩] true)
  (.seq (.ops [
    ⟨(some 114), .faddr 4, [.tmp 3], none⟩,
    ⟨(some 115), .load 1 false, [.tmp 114], none⟩,
    ⟨(some 116), .faddr 5, [.tmp 3], none⟩,
    ⟨(some 117), .load 1 false, [.tmp 116], none⟩,
    ⟨(some 118), .bin .sub .i64 false, [.tmp 115, .tmp 117], none⟩,
    ⟨(some 119), .mov, [.tmp 8], none⟩,
    ⟨(some 120), .mov, [.tmp 10], none⟩,
    ⟨(some 121), .call 23, [.tmp 118, .tmp 119, .tmp 120], none⟩,
    ⟨(some 4), .mov, [.tmp 121], none⟩] false)
  .ret)))))))))))))))⟩
theorem lawLow : lowF Try.prog {} Try.f9 = some lawIr := by kernel_rfl
def lawS : Spec := spec (Book × Sale) (fun p => [aB p.1, aE p.2]) (fun p => okB p.1) (fun _ => B true)
set_option maxHeartbeats 4000000 in
theorem lawV : fnV Try.prog lawIr lawS := by
  intro ⟨(b : Book), (s : Sale)⟩ (ho : okB b)
  show vc _ _ _ _ ⟨argEnv 0 [aB b, aE s], [], 0⟩
  by_cases hd : defP b
  · have hk := hd.bk ho
    have h1 := hk.hr
    by_cases hE0 : salesE [s] = 0
    · have hE := hE0
      have hs : SaP s := sale_ok hE s (by simp)
      have hof := hk.of hs
      have hfee := hs.fee
      have hpaid := hs.paid
      have hsel := hs.sel
      have hf0 := of_fine hof
      have hP0 := of_sum hof
      have hQ8 : (ptsOf b.m b.l b.rides s).length = 8 := ptsAll_len ..
      have hQ0 := pts_sum hof
      have hn0 := whole_none hof
      have hw0 := fun h v hv => whole_parts hof h (v := v) hv
      have hw1 := whole_fair hof
      obtain ⟨P, hP⟩ : ∃ P, ofL b.m b.l b.rides s = P := ⟨_, rfl⟩
      obtain ⟨Q, hQ⟩ : ∃ Q, ptsOf b.m b.l b.rides s = Q := ⟨_, rfl⟩
      obtain ⟨R, hR⟩ : ∃ R, partsL (restOf s) Q = R := ⟨_, rfl⟩
      rw [hP] at hf0 hP0 hn0 hw0
      rw [hQ] at hQ8 hQ0 hn0 hw0 hw1
      rw [hR] at hw0 hw1
      have hPl := hf0.len
      have hlP : (P.map encS).length = P.length := List.length_map ..
      have hlQ : (Q.map e1).length = 8 := by rw [List.length_map, hQ8]
      have hRl : R.length = 8 := by rw [← hR, partsL_len, hQ8]
      repeat' ((conv => whnf); first | (refine ⟨fun h => ?_, fun h => ?_⟩ <;> try (exfalso; first | omega | exact absurd h (by decide) | exact h rfl)) | (refine ⟨_, alive_h, (), trivial, leVs_of_eq rfl, .inl rfl, rfl, ?_⟩; show norm (B true) _) | (refine ⟨_, defined_h, b, ho, leVs_of_eq rfl, .inl rfl, rfl, ?_⟩; show norm (B (decide (defP b))) _; rw [decide_eq_true hd]) | (refine ⟨_, sright_h, [s], (by show [s].length ≤ 1000000; simp), leVs_of_eq rfl, .inl rfl, rfl, ?_⟩; show norm (I (salesE [s])) _; rw [hE]) | (refine ⟨_, of_h, (b.m, b.l, b.rides, s), hof, leVs_of_eq rfl, .inl rfl, rfl, ?_⟩; show norm (L 2 ((ofL b.m b.l b.rides s).map encS)) _; rw [hP]) | (refine ⟨_, total_h, P, hf0, leVs_of_eq rfl, .inl rfl, rfl, ?_⟩; show norm (.tup [I (sumA P), B true]) _; rw [hP0]) | (refine ⟨_, points_h, (b.m, b.l, b.rides, s.serial), ⟨⟨hk.hm, hk.ll⟩, hk.hR, (by show b.rides.length ≤ 100000; omega)⟩, leVs_of_eq rfl, .inl rfl, rfl, ?_⟩; show norm (L 1 ((ptsOf b.m b.l b.rides s).map e1)) _; rw [hQ]) | (first | refine ⟨⟨by decide, by decide, by decide, by decide⟩, ?_⟩ | refine ⟨⟨by decide, by decide, by decide⟩, ?_⟩ | refine ⟨⟨by decide, by decide⟩, ?_⟩) | fail | fail)
      refine ⟨Nat × Int, fun xq => ⟨[(3, .bp 1 0), (5, L 2 (P.map encS)), (8, L 1 (Q.map e1)), (9, I xq.2), (10, .osl 2), (11, I xq.1)], [(0, .box [L 2 (b.m.nodes.map encN), L 8 (b.m.lifts.map encL), L 7 (b.m.runs.map encU), L 1 (b.m.bases.map e1), L 2 (b.l.map encT), L 7 (b.rides.map encD)]), (1, .box ((encE s).map .c)), (2, .row 3 1 (List.replicate 8 [.int .i64 0]))], 3⟩, fun xq => xq.1 ≤ 8 ∧ xq.2 = (Q.take xq.1).sum, fun xq => 8 - xq.1, ⟨(0, 0), ?_, [], ⟨⟨rfl, rfl⟩, ⟨⟨rfl, rfl⟩, ⟨⟨rfl, rfl⟩, ⟨⟨rfl, rfl⟩, ⟨⟨rfl, rfl⟩, ⟨⟨rfl, rfl⟩, trivial⟩⟩⟩⟩⟩⟩, ⟨⟨rfl, rfl, rfl⟩, ⟨⟨rfl, rfl, rfl⟩, ⟨⟨rfl, rfl, rfl⟩, trivial⟩⟩⟩, rfl, rfl, rfl⟩, ?_⟩
      · (try dsimp only); exact ⟨Nat.zero_le _, rfl⟩
      rintro ⟨k, n⟩ hk
      obtain ⟨hk8, rfl⟩ : k ≤ 8 ∧ n = (Q.take k).sum := hk
      (try dsimp only)
      have hq := hQ0 k
      by_cases hkl : k < 8
      · obtain ⟨x, hx⟩ := getElem_some (show k < Q.length by omega)
        have hst : (Q.take (k + 1)).sum = (Q.take k).sum + x := by rw [take_snoc Q k x hx, List.sum_append]; simp
        have hq2 := hQ0 (k + 1)
        repeat' ((conv => whnf); first | (refine ⟨fun h => ?_, fun h => ?_⟩ <;> try (exfalso; first | omega | exact absurd h (by decide) | exact h rfl)) | (refine ⟨by omega, fun r hrr => ?_⟩; first | ((have hre : r = e1 x := by (first | exact get_row hrr hx | fail)); subst hre)) | (refine ⟨(k + 1, _), ⟨?_, by (try dsimp only); omega⟩, [], ⟨⟨rfl, rfl⟩, ⟨⟨rfl, rfl⟩, ⟨⟨rfl, rfl⟩, ⟨⟨rfl, rfl⟩, ⟨⟨rfl, rfl⟩, ⟨⟨rfl, rfl⟩, trivial⟩⟩⟩⟩⟩⟩, ⟨⟨rfl, rfl, rfl⟩, ⟨⟨rfl, rfl, rfl⟩, ⟨⟨rfl, rfl, rfl⟩, trivial⟩⟩⟩, rfl, rfl, rfl⟩; (try dsimp only); exact ⟨by omega, hst.symm⟩) | refine ⟨⟨by omega, by omega⟩, ?_⟩ | fail | fail)
      have hk9 : k = 8 := by omega
      subst hk9
      rw [show Q.take 8 = Q from List.take_of_length_le (by omega)] at hq ⊢
      repeat' ((conv => whnf); first | (refine ⟨fun h => ?_, fun h => ?_⟩ <;> try (exfalso; first | omega | exact absurd h (by decide) | exact h rfl)) | fail | fail)
      refine ⟨Nat × (List (List CV)), fun xq => ⟨[(3, .bp 1 0), (5, L 2 (P.map encS)), (8, L 1 (Q.map e1)), (9, I Q.sum), (10, .osl 2), (12, I xq.1)], [(0, .box [L 2 (b.m.nodes.map encN), L 8 (b.m.lifts.map encL), L 7 (b.m.runs.map encU), L 1 (b.m.bases.map e1), L 2 (b.l.map encT), L 7 (b.rides.map encD)]), (1, .box ((encE s).map .c)), (2, .row 3 1 xq.2)], 3⟩, fun xq => xq.1 ≤ P.length ∧ xq.2 = (partsA (P.take xq.1)).map e1, fun xq => P.length - xq.1, ⟨(0, _), ?_, [], ⟨⟨rfl, rfl⟩, ⟨⟨rfl, rfl⟩, ⟨⟨rfl, rfl⟩, ⟨⟨rfl, rfl⟩, ⟨⟨rfl, rfl⟩, ⟨⟨rfl, rfl⟩, trivial⟩⟩⟩⟩⟩⟩, ⟨⟨rfl, rfl, rfl⟩, ⟨⟨rfl, rfl, rfl⟩, ⟨⟨rfl, rfl, rfl⟩, trivial⟩⟩⟩, rfl, rfl, rfl⟩, ?_⟩
      · (try dsimp only); exact ⟨Nat.zero_le _, rfl⟩
      rintro ⟨k, es⟩ hk
      obtain ⟨hkP, rfl⟩ : k ≤ P.length ∧ es = (partsA (P.take k)).map e1 := hk
      (try dsimp only)
      have hl8 : ((partsA (P.take k)).map e1).length = 8 := by rw [List.length_map, partsA_len]
      by_cases hkl : k < P.length
      · obtain ⟨x, hx⟩ := getElem_some hkl
        obtain ⟨⟨o1, o2⟩, a1⟩ := hf0.op x (List.mem_of_getElem? hx)
        obtain ⟨v, hv⟩ := getElem_some (xs := partsA (P.take k)) (k := (x.o - 1).toNat) (by rw [partsA_len]; omega)
        have gv := get_e1 hv
        have hset : ((partsA (P.take k)).map e1).set (x.o - 1).toNat [.int .i64 x.a] = (partsA (P.take (k + 1))).map e1 := by rw [map_set1, partsA_snoc hx]
        repeat' ((conv => whnf); first | (refine ⟨fun h => ?_, fun h => ?_⟩ <;> try (exfalso; first | omega | exact absurd h (by decide) | exact h rfl)) | (refine ⟨by omega, fun r hrr => ?_⟩; first | ((have hre : r = encS x := by (first | exact get_row hrr hx | fail)); subst hre)) | refine get_at gv ?_ | (refine ⟨(k + 1, _), ⟨?_, by (try dsimp only); omega⟩, [], ⟨⟨rfl, rfl⟩, ⟨⟨rfl, rfl⟩, ⟨⟨rfl, rfl⟩, ⟨⟨rfl, rfl⟩, ⟨⟨rfl, rfl⟩, ⟨⟨rfl, rfl⟩, trivial⟩⟩⟩⟩⟩⟩, ⟨⟨rfl, rfl, rfl⟩, ⟨⟨rfl, rfl, rfl⟩, ⟨⟨rfl, rfl, rfl⟩, trivial⟩⟩⟩, rfl, rfl, rfl⟩; (try dsimp only); exact ⟨by omega, hset⟩) | refine ⟨⟨by omega, by omega⟩, ?_⟩ | fail | fail)
      rw [take_end hkl] at hl8 ⊢
      obtain ⟨v, hv⟩ := getElem_some (xs := partsA P) (k := (s.seller - 1).toNat) (by rw [partsA_len]; omega)
      have gv := get_e1 hv
      have hva : v = amt P s.seller := by
        rw [partsA_get hf0 (by omega), show (((s.seller - 1).toNat : Nat) : Int) + 1 = s.seller by omega] at hv
        exact (Option.some.inj hv).symm
      have hvb := Pos.amt (p := P) (fun x hx => by have := (hf0.op x hx).2; omega) s.seller
      rw [hP0, ← hva] at hvb
      by_cases hQz : Q.sum = 0
      · have hvp := hn0 hQz
        rw [← hva] at hvp
        repeat' ((conv => whnf); first | (refine ⟨fun h => ?_, fun h => ?_⟩ <;> try (exfalso; first | omega | exact absurd h (by decide) | exact h rfl)) | refine ⟨⟨by omega, by omega⟩, ?_⟩ | refine get_at gv ?_ | exact ⟨[], rfl, trivial, rfl⟩ | fail)
      · have hset : ((partsA P).map e1).set (s.seller - 1).toNat [.int .i64 (v - s.fee)] = R.map e1 := by rw [map_set1, hw0 hQz v hv]
        obtain ⟨hc, hfair⟩ := hw1 hQz
        repeat' ((conv => whnf); first | (refine ⟨fun h => ?_, fun h => ?_⟩ <;> try (exfalso; first | omega | exact absurd h (by decide) | exact h rfl)) | refine ⟨⟨by omega, by omega⟩, ?_⟩ | refine get_at gv ?_ | (refine ⟨_, fair_h, (restOf s, Q, R), ⟨(by show Q.length ≤ 1000000; omega), (by show R.length ≤ 1000000; omega)⟩, ⟨leV_refl _, leV_refl _, (by show leV (L 1 (((partsA P).map e1).set (s.seller - 1).toNat [.int .i64 (v - s.fee)])) (L 1 (R.map e1)); rw [hset]; exact leV_refl _), trivial⟩, .inr rfl, rfl, ?_⟩; show norm (B (decide (chkF (restOf s) Q = 0 ∧ fairP (restOf s) Q R))) _; rw [decide_eq_true ⟨hc, hfair⟩]) | exact ⟨[], rfl, trivial, rfl⟩ | fail)
    · obtain ⟨e, hE⟩ : ∃ e, salesE [s] = e := ⟨_, rfl⟩
      rw [hE] at hE0
      repeat' ((conv => whnf); first | (refine ⟨fun h => ?_, fun h => ?_⟩ <;> try (exfalso; first | omega | exact absurd h (by decide) | exact h rfl)) | (refine ⟨_, alive_h, (), trivial, leVs_of_eq rfl, .inl rfl, rfl, ?_⟩; show norm (B true) _) | (refine ⟨_, defined_h, b, ho, leVs_of_eq rfl, .inl rfl, rfl, ?_⟩; show norm (B (decide (defP b))) _; rw [decide_eq_true hd]) | (refine ⟨_, sright_h, [s], (by show [s].length ≤ 1000000; simp), leVs_of_eq rfl, .inl rfl, rfl, ?_⟩; show norm (I (salesE [s])) _; rw [hE]) | exact ⟨[], rfl, trivial, rfl⟩ | fail)
  · repeat' ((conv => whnf); first | (refine ⟨fun h => ?_, fun h => ?_⟩ <;> try (exfalso; first | omega | exact absurd h (by decide) | exact h rfl)) | (refine ⟨_, alive_h, (), trivial, leVs_of_eq rfl, .inl rfl, rfl, ?_⟩; show norm (B true) _) | (refine ⟨_, defined_h, b, ho, leVs_of_eq rfl, .inl rfl, rfl, ?_⟩; show norm (B (decide (defP b))) _; rw [decide_eq_false hd]) | exact ⟨[], rfl, trivial, rfl⟩ | fail)
theorem law_h : Holds Try.prog 9 lawS := holds_of mix Try.func9 lawLow (fun _ => rfl) lawV

/-! ### THE ROW's STEP -/
theorem own : ownKnob Try.prog.godebug = none := by kernel_rfl
theorem laidOut : laidOutB Try.prog = true := by kernel_rfl
set_option maxRecDepth 100000 in
theorem lifted (os : Os) (started : os.Started) (H : Type) (enc : TypeId × Value → H) :
    ReturnsInHanded {} Try.checked os 9 .any (Rows.revenueWholeSpec.pre6 enc Try.prog Try.f9 Rows.revenueWholeRow.domain false) (Rows.revenueWholeSpec.post enc Try.prog Try.f9 false true false false) := by
  refine returnsInHanded_of_change (C := Try.checked) own started (by kernel_rfl) Try.func9
    (ChangeSpec.witness6 (enc := enc) (C := Try.checked) false ⟨#[], #[.agg #[.slice none 0 0, .slice none 0 0, .slice none 0 0, .slice none 0 0, .slice none 0 0, .slice none 0 0], .agg #[.int .i64 0, .int .i64 0, .int .i64 0, .int .i64 0, .int .i64 0, .int .i64 0]], []⟩ 8 (by kernel_rfl) (by kernel_rfl) (by kernel_rfl) (by kernel_rfl)) ?_
  intro W base args ds gs before hval0 hW hcnd _
  have hval : ∀ (j : Nat) t v, Try.f9.params[j]? = some t → args[j]? = some v → Value.okWide Try.prog W .any base t v := hval0
  have hW' := hW
  obtain ⟨p, q, hA0, hV, rfl, hfz, hnd⟩ := hW
  have hA : DataW.TrodAll enc Try.prog W 0 (fun _ => true) true Try.f9.params.toList args.toList ds p := hA0
  rw [Try.params9] at hA hval
  obtain ⟨v0, vs0, d0, ds0, p0, q0, hargs, rfl, rfl, h0, r0⟩ := trodAll_cons hA
  obtain ⟨v1, vs1, d1, ds1, p1, q1, rfl, rfl, rfl, h1, r1⟩ := trodAll_cons r0
  obtain ⟨rfl, rfl, rfl⟩ := trodAll_nil r1
  obtain rfl : args = #[v0, v1] := by cases args; simp_all
  obtain ⟨rfl, rfl⟩ := trodVars_none hV
  have lt0 : ∀ x ∈ p0, x.block < W.heap.size := by obtain ⟨m, hm⟩ := h0; exact DataW.trod_lt m _ _ _ hm
  obtain ⟨z0, w0, x0⟩ := openB (hval 0 36 v0 rfl rfl) h0
  have lt1 : ∀ x ∈ p1, x.block < W.heap.size := by obtain ⟨m, hm⟩ := h1; exact DataW.trod_lt m _ _ _ hm
  obtain ⟨z1, w1, x1⟩ := openSa (hval 1 42 v1 rfl rfl) h1
  clear hA0 hval0
  refine Calls.mono (law_calls law_h (z0, z1) w0 rfl (vs := [v0, v1]) (replist_mk x0 (replist_mk x1 replist_mk0))) fun e W' ⟨he, bel⟩ => ?_
  subst he
  exact ⟨_, rfl, _, _, _, [], _, [], hW', trodAll_mk1 (shut_bool Try.underlying4 _), (trodAll_cons_mk (Below.trod laidOut (by kernel_rfl) (of_decide_eq_true (by kernel_rfl)) h0 bel lt0) (trodAll_cons_mk (Below.trod laidOut (by kernel_rfl) (of_decide_eq_true (by kernel_rfl)) h1 bel lt1) trodAll_mk0)), rfl, bel.frame _, fun h => by cases h⟩

theorem over : Rows.revenueWholeRow.holds Try.pinned (OpenSpec.ofChange Rows.revenueWholeSpec) :=
  OpenClaim.holds_of_wide 9 Try.f9 rfl rfl rfl rfl rfl rfl rfl ⟨rfl, rfl, rfl, rfl, rfl⟩ rfl rfl rfl rfl rfl (by kernel_rfl) Try.func9 (by kernel_rfl)
    (of_decide_eq_true (by kernel_rfl)) (by unfold Func.isWrapper; first | (rw [if_pos (by decide +kernel)]; kernel_rfl) | (rw [if_neg (by decide +kernel)]; exact ⟨rfl, rfl⟩))
    (fun os started H enc _ => lifted os started H enc)

theorem proved : Rows.RevenueWholeSaid := over
end Go.Proofs.Ytbglmocgijlomaa.lawWhole
