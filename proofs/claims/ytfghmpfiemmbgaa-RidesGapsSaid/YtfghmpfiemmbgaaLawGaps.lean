/- RidesGaps: Upto ends before the first gap, and with the missing rides there are no gaps. No condition. -/
import Derived.Test.YtfghmpfiemmbgaaG6
namespace Go.Proofs.Ytfghmpfiemmbgaa.lawGaps
open Go.ChangeShapes Go.WideShapes Go.ChangeAt Go.RowKit Go.Deep Go.Joins
set_option linter.unusedVariables false

/-! skiarea/skiarealaw31.RidesGaps -/
def lawIr : IFn := ⟨136, [.tmp 4],
  (.seq (.ops [
    ⟨(some 4), .mov, [.const (.bool false)], none⟩] false)
  (.seq (.seq (.ops [
    ⟨(some 15), .call 11, [], none⟩,
    ⟨(some 16), .not, [.tmp 15], none⟩] false)
  (.cond (.tmp 16)
    (.seq (.ops [
      ⟨(some 4), .mov, [.const (.bool false)], none⟩] false)
    .ret)
    .skip))
  (.seq (.seq (.ops [
    ⟨(some 17), .mov, [.tmp 0], none⟩,
    ⟨(some 18), .call 14, [.tmp 17], none⟩,
    ⟨(some 19), .not, [.tmp 18], none⟩,
    ⟨(some 20), .mov, [.tmp 19], none⟩,
    ⟨(some 21), .mov, [.tmp 1], (some (20, false))⟩,
    ⟨(some 22), .cmp .lss, [.tmp 21, .const (.int .i64 1)], (some (20, false))⟩,
    ⟨(some 23), .pick, [.tmp 20, .const (.bool true), .tmp 22], none⟩,
    ⟨(some 24), .mov, [.tmp 23], none⟩,
    ⟨(some 25), .mov, [.tmp 1], (some (24, false))⟩,
    ⟨(some 26), .cmp .gtr, [.tmp 25, .const (.int .i64 9999)], (some (24, false))⟩,
    ⟨(some 27), .pick, [.tmp 24, .const (.bool true), .tmp 26], none⟩] false)
  (.cond (.tmp 27)
    (.seq (.ops [
      ⟨(some 4), .mov, [.const (.bool true)], none⟩] false)
    .ret)
    .skip))
  (.seq (.ops [
    ⟨(some 5), .mov, [.const (.int .i64 0)], none⟩] false)
  (.seq (.seq (.ops [
    ⟨(some 6), .mov, [.const (.int .i64 0)], none⟩] false)
  (.block 0
    (.loop
      (.seq (.seq (.ops [
        ⟨(some 28), .mov, [.tmp 6], none⟩,
        ⟨(some 29), .mov, [.tmp 0], none⟩,
        ⟨(some 30), .len, [.tmp 29], none⟩,
        ⟨(some 31), .cmp .lss, [.tmp 28, .tmp 30], none⟩] false)
      (.cond (.tmp 31)
        .skip
        (.exit 0)))
      (.seq (.block 1
        (.seq (.ops [
          ⟨(some 34), .mov, [.tmp 0], none⟩,
          ⟨(some 35), .mov, [.tmp 6], none⟩,
          ⟨(some 36), .idx 7, [.tmp 34, .tmp 35], none⟩,
          ⟨(some 37), .faddr 0, [.tmp 36], none⟩,
          ⟨(some 38), .load 1 false, [.tmp 37], none⟩,
          ⟨(some 39), .mov, [.tmp 1], none⟩,
          ⟨(some 40), .cmp .eql, [.tmp 38, .tmp 39], none⟩] false)
        (.cond (.tmp 40)
          (.ops [
            ⟨(some 41), .mov, [.tmp 0], none⟩,
            ⟨(some 42), .mov, [.tmp 6], none⟩,
            ⟨(some 43), .idx 7, [.tmp 41, .tmp 42], none⟩,
            ⟨(some 44), .faddr 1, [.tmp 43], none⟩,
            ⟨(some 45), .load 1 false, [.tmp 44], none⟩,
            ⟨(some 5), .mov, [.tmp 45], none⟩] false)
          .skip)))
      (.ops [
        ⟨(some 32), .mov, [.tmp 6], none⟩,
        ⟨(some 33), .bin .add .i64 false, [.tmp 32, .const (.int .i64 1)], none⟩,
        ⟨(some 6), .mov, [.tmp 33], none⟩] false))))))
  (.seq (.ops [
    ⟨(some 46), .mov, [.tmp 0], none⟩,
    ⟨(some 47), .mov, [.tmp 1], none⟩,
    ⟨(some 48), .call 21, [.tmp 46, .tmp 47], none⟩,
    ⟨(some 49), .mov, [.tmp 0], none⟩,
    ⟨(some 50), .mov, [.tmp 1], none⟩,
    ⟨(some 51), .call 22, [.tmp 49, .tmp 50], none⟩,
    ⟨(some 7), .mov, [.tmp 48], none⟩,
    ⟨(some 8), .mov, [.tmp 51], none⟩] false)
  (.seq (.seq (.ops [
    ⟨(some 52), .mov, [.tmp 7], none⟩,
    ⟨(some 53), .len, [.tmp 52], none⟩,
    ⟨(some 54), .cmp .eql, [.tmp 53, .const (.int .i64 0)], none⟩] false)
  (.cond (.tmp 54)
    (.seq (.ops [
      ⟨(some 55), .mov, [.tmp 8], none⟩,
      ⟨(some 56), .mov, [.tmp 5], none⟩,
      ⟨(some 57), .cmp .eql, [.tmp 55, .tmp 56], none⟩,
      ⟨(some 4), .mov, [.tmp 57], none⟩] false)
    .ret)
    .skip))
  (.seq (.seq (.ops [
    ⟨(some 58), .mov, [.tmp 7], none⟩,
    ⟨(some 59), .len, [.tmp 58], none⟩,
    ⟨(some 60), .cmp .gtr, [.tmp 59, .const (.int .i64 100)], none⟩,
    ⟨(some 61), .mov, [.tmp 60], none⟩,
    ⟨(some 62), .mov, [.tmp 8], (some (61, false))⟩,
    ⟨(some 63), .mov, [.tmp 7], (some (61, false))⟩,
    ⟨(some 64), .idx 1, [.tmp 63, .const (.int .i64 0)], (some (61, false))⟩,
    ⟨(some 65), .load 1 false, [.tmp 64], (some (61, false))⟩,
    ⟨(some 66), .bin .sub .i64 false, [.tmp 65, .const (.int .i64 1)], (some (61, false))⟩,
    ⟨(some 67), .cmp .neq, [.tmp 62, .tmp 66], (some (61, false))⟩,
    ⟨(some 68), .pick, [.tmp 61, .const (.bool true), .tmp 67], none⟩] false)
  (.cond (.tmp 68)
    (.seq (.ops [
      ⟨(some 4), .mov, [.const (.bool false)], none⟩] false)
    .ret)
    .skip))
  (.seq (.ops [
    ⟨(some 69), .mov, [.tmp 0], none⟩,
    ⟨(some 9), .mov, [.tmp 69], none⟩] false)
  (.seq (.seq (.ops [
    ⟨(some 10), .mov, [.const (.int .i64 0)], none⟩] false)
  (.block 2
    (.loop
      (.seq (.seq (.ops [
        ⟨(some 70), .mov, [.tmp 10], none⟩,
        ⟨(some 71), .mov, [.tmp 7], none⟩,
        ⟨(some 72), .len, [.tmp 71], none⟩,
        ⟨(some 73), .cmp .lss, [.tmp 70, .tmp 72], none⟩] false)
      (.cond (.tmp 73)
        .skip
        (.exit 2)))
      (.seq (.block 3
        (.seq (.seq (.ops [
          ⟨(some 76), .mov, [.tmp 7], none⟩,
          ⟨(some 77), .mov, [.tmp 10], none⟩,
          ⟨(some 78), .idx 1, [.tmp 76, .tmp 77], none⟩,
          ⟨(some 79), .load 1 false, [.tmp 78], none⟩,
          ⟨(some 80), .mov, [.tmp 5], none⟩,
          ⟨(some 81), .cmp .geq, [.tmp 79, .tmp 80], none⟩,
          ⟨(some 82), .mov, [.tmp 81], none⟩,
          ⟨(some 83), .mov, [.tmp 10], (some (82, false))⟩,
          ⟨(some 84), .cmp .gtr, [.tmp 83, .const (.int .i64 0)], (some (82, false))⟩,
          ⟨(some 85), .mov, [.tmp 84], (some (82, false))⟩,
          ⟨(some 86), .mov, [.tmp 7], (some (85, true))⟩,
          ⟨(some 87), .mov, [.tmp 10], (some (85, true))⟩,
          ⟨(some 88), .idx 1, [.tmp 86, .tmp 87], (some (85, true))⟩,
          ⟨(some 89), .load 1 false, [.tmp 88], (some (85, true))⟩,
          ⟨(some 90), .mov, [.tmp 7], (some (85, true))⟩,
          ⟨(some 91), .mov, [.tmp 10], (some (85, true))⟩,
          ⟨(some 92), .bin .sub .i64 false, [.tmp 91, .const (.int .i64 1)], (some (85, true))⟩,
          ⟨(some 93), .idx 1, [.tmp 90, .tmp 92], (some (85, true))⟩,
          ⟨(some 94), .load 1 false, [.tmp 93], (some (85, true))⟩,
          ⟨(some 95), .cmp .leq, [.tmp 89, .tmp 94], (some (85, true))⟩,
          ⟨(some 96), .pick, [.tmp 85, .tmp 95, .const (.bool false)], (some (82, false))⟩,
          ⟨(some 97), .pick, [.tmp 82, .const (.bool true), .tmp 96], none⟩] true)
        (.cond (.tmp 97)
          (.seq (.ops [
            ⟨(some 4), .mov, [.const (.bool false)], none⟩] false)
          .ret)
          .skip))
        (.seq (.ops [
          ⟨(some 98), .mov, [.tmp 7], none⟩,
          ⟨(some 99), .mov, [.tmp 10], none⟩,
          ⟨(some 100), .idx 1, [.tmp 98, .tmp 99], none⟩,
          ⟨(some 101), .load 1 false, [.tmp 100], none⟩,
          ⟨(some 102), .call 20, [.tmp 101, .const (.int .i64 7)], none⟩,
          ⟨(some 11), .alloc [.int .i64 0, .int .i64 0, .int .i64 0, .int .i64 0, .int .i64 0, .int .i64 0, .int .i64 0], [], none⟩,
          ⟨none, .store 7, [.tmp 11, .tmp 102], none⟩] false)
        (.seq (.ops [
          ⟨(some 103), .mov, [.tmp 1], none⟩,
          ⟨(some 104), .faddr 0, [.tmp 11], none⟩,
          ⟨none, .store 1, [.tmp 104, .tmp 103], none⟩] false)
        (.seq (.ops [
          ⟨(some 106), .mov, [.tmp 9], none⟩,
          ⟨(some 107), .load 7 true, [.tmp 11], none⟩,
          ⟨(some 108), .call 15, [.tmp 106, .tmp 107], none⟩,
          ⟨(some 105), .mov, [.tmp 108], none⟩,
          ⟨(some 109), .extract 0, [.tmp 105], none⟩,
          ⟨(some 110), .extract 1, [.tmp 105], none⟩,
          ⟨(some 111), .extract 2, [.tmp 105], none⟩,
          ⟨(some 12), .mov, [.tmp 109], none⟩,
          ⟨(some 13), .mov, [.tmp 110], none⟩,
          ⟨(some 14), .mov, [.tmp 111], none⟩] false)
        (.seq (.seq (.ops [
          ⟨(some 112), .mov, [.tmp 14], none⟩,
          ⟨(some 113), .cmp .neq, [.tmp 112, .const (.int .i64 0)], none⟩,
          ⟨(some 114), .mov, [.tmp 113], none⟩,
          ⟨(some 115), .mov, [.tmp 13], (some (114, false))⟩,
          ⟨(some 116), .not, [.tmp 115], (some (114, false))⟩,
          ⟨(some 117), .pick, [.tmp 114, .const (.bool true), .tmp 116], none⟩] false)
        (.cond (.tmp 117)
          (.seq (.ops [
            ⟨(some 4), .mov, [.const (.bool false)], none⟩] false)
          .ret)
          .skip))
        (.ops [
          ⟨(some 118), .mov, [.tmp 12], none⟩,
          ⟨(some 9), .mov, [.tmp 118], none⟩] false)))))))
      (.ops [
        ⟨(some 74), .mov, [.tmp 10], none⟩,
        ⟨(some 75), .bin .add .i64 false, [.tmp 74, .const (.int .i64 1)], none⟩,
        ⟨(some 10), .mov, [.tmp 75], none⟩] false))))))
  (.seq (.ops [
    ⟨(some 119), .mov, [.tmp 7], none⟩,
    ⟨(some 120), .len, [.tmp 119], none⟩,
    ⟨(some 121), .cmp .eql, [.tmp 120, .const (.int .i64 100)], none⟩,
    ⟨(some 122), .mov, [.tmp 121], none⟩,
    ⟨(some 123), .mov, [.tmp 9], (some (122, false))⟩,
    ⟨(some 124), .mov, [.tmp 1], (some (122, false))⟩,
    ⟨(some 125), .call 22, [.tmp 123, .tmp 124], (some (122, false))⟩,
    ⟨(some 126), .mov, [.tmp 5], (some (122, false))⟩,
    ⟨(some 127), .cmp .eql, [.tmp 125, .tmp 126], (some (122, false))⟩,
    ⟨(some 128), .mov, [.tmp 127], (some (122, false))⟩,
    ⟨(some 129), .mov, [.tmp 9], (some (128, true))⟩,
    ⟨(some 130), .mov, [.tmp 1], (some (128, true))⟩,
    ⟨(some 131), .call 21, [.tmp 129, .tmp 130], (some (128, true))⟩,
    ⟨(some 132), .len, [.tmp 131], (some (128, true))⟩,
    ⟨(some 133), .cmp .eql, [.tmp 132, .const (.int .i64 0)], (some (128, true))⟩,
    ⟨(some 134), .pick, [.tmp 128, .tmp 133, .const (.bool false)], (some (122, false))⟩,
    ⟨(some 135), .pick, [.tmp 122, .const (.bool true), .tmp 134], none⟩,
    ⟨(some 4), .mov, [.tmp 135], none⟩] false)
  .ret)))))))))))⟩
theorem lawLow : lowF Try.prog {} Try.f9 = some lawIr := by kernel_rfl
def lawS : Spec := spec (List Ride × Int) (fun p => [L 7 (p.1.map encR), I p.2]) (fun _ => True) (fun _ => B true)
theorem lawV : fnV Try.prog lawIr lawS := by
  intro ⟨(l : List Ride), (g : Int)⟩ hx
  show vc _ _ _ ⟨argEnv 0 [L 7 (l.map encR), I g], [], 0⟩
  by_cases hr : rightB l = true
  · by_cases hg : 1 ≤ g ∧ g ≤ 9999
    · obtain ⟨⟨h1, _⟩, lok, ls⟩ := rightB_ok hr
      have hll : (l.map encR).length = l.length := List.length_map ..
      have pg : l.length ≤ 3000 ∧ ∀ x ∈ l, okR x := ⟨by omega, lok⟩
      have pu : l.length ≤ 3000 := by omega
      repeat' ((conv => whnf); first | (refine ⟨fun h => ?_, fun h => ?_⟩ <;> try (exfalso; first | omega | exact absurd h (by decide) | exact h rfl | (simp at h; done) | (rw [hr] at h; exact absurd h (by decide)))) | refine ⟨_, alive_h, (), trivial, leVs_of_eq rfl, .inr rfl, rfl, ?_⟩ | refine ⟨_, lright_h, _, trivial, leVs_of_eq rfl, .inr rfl, rfl, ?_⟩ | fail)
      conv => whnf
      refine ⟨Nat × Int, fun xq => ⟨[(0, L 7 (l.map encR)), (1, I g), (5, I xq.2), (6, I xq.1)], [], 0⟩, fun xq => xq.1 ≤ l.length ∧ xq.2 = great (l.take xq.1) g, fun xq => l.length - xq.1, ⟨(0, _), ?_, [], ⟨⟨rfl, rfl⟩, ⟨⟨rfl, rfl⟩, ⟨⟨rfl, rfl⟩, ⟨⟨rfl, rfl⟩, trivial⟩⟩⟩⟩, trivial, rfl, rfl⟩, ?_⟩
      · (try dsimp only); exact ⟨Nat.zero_le _, rfl⟩
      rintro ⟨k, n⟩ hk
      obtain ⟨hk, rfl⟩ : k ≤ l.length ∧ n = great (l.take k) g := hk
      (try dsimp only)
      by_cases hkl : k < l.length
      · have hx : l[k]? = some l[k] := List.getElem?_eq_getElem hkl
        generalize l[k] = x at hx
        have hs := great_step (g := g) hx
        repeat' ((conv => whnf); first | (refine ⟨(k + 1, x.seq), ⟨?_, by dsimp only; omega⟩, [], ⟨⟨rfl, rfl⟩, ⟨⟨rfl, rfl⟩, ⟨⟨rfl, rfl⟩, ⟨⟨rfl, rfl⟩, trivial⟩⟩⟩⟩, trivial, rfl, rfl⟩; (try dsimp only); exact ⟨by omega, by rw [hs, if_pos (by omega)]⟩) | (refine ⟨(k + 1, great (l.take k) g), ⟨?_, by dsimp only; omega⟩, [], ⟨⟨rfl, rfl⟩, ⟨⟨rfl, rfl⟩, ⟨⟨rfl, rfl⟩, ⟨⟨rfl, rfl⟩, trivial⟩⟩⟩⟩, trivial, rfl, rfl⟩; (try dsimp only); exact ⟨by omega, by rw [hs, if_neg (by omega)]⟩) | (refine ⟨fun h => ?_, fun h => ?_⟩ <;> try (exfalso; omega)) | (refine ⟨by omega, fun r hr => ?_⟩; (obtain rfl := get_row hr hx)) | refine ⟨_, before_h, (_, _), trivial, leVs_of_eq rfl, .inr rfl, rfl, ?_⟩ | refine ⟨⟨by omega, by omega⟩, ?_⟩ | refine ⟨⟨by simp; omega, by simp; omega⟩, ?_⟩ | fail)
      · rw [List.take_of_length_le (by omega)]
        have hgl : ((gaps l g).map cI).length = (gaps l g).length := List.length_map ..
        have h100 : (gaps l g).length ≤ 100 := by rw [gaps_eq]; exact gS_len _ _ _
        cases hgs : gaps l g with
        | nil =>
          have hup := gaps_none ls lok hgs
          have eG : L 1 ((gaps l g).map cI) = L 1 [] := by rw [hgs]; rfl
          have eU : I (upto l g) = I (great l g) := by rw [hup]
          repeat' ((conv => whnf); first | (refine ⟨fun h => ?_, fun h => ?_⟩ <;> try (exfalso; first | omega | exact absurd h (by decide) | exact h rfl | (simp at h; done))) | (refine ⟨_, gaps_h, (l, g), pg, leVs_of_eq rfl, .inl rfl, rfl, ?_⟩; show norm (L 1 ((gaps l g).map cI)) _; rw [eG]) | (refine ⟨_, upto_h, (l, g), pu, leVs_of_eq rfl, .inl rfl, rfl, ?_⟩; show norm (I (upto l g)) _; rw [eU]) | exact ⟨[], rfl, trivial, rfl⟩ | fail)
        | cons y t =>
          have hup := gaps_some ls lok hgs
          have h0 : (gaps l g)[0]? = some y := by rw [hgs]; rfl
          have hy := gaps_mem ls lok (List.mem_of_getElem? h0)
          have hbd := great_bd (g := g) lok
          have hpos : 0 < (gaps l g).length := by rw [hgs]; simp
          have eU : I (upto l g) = I (y - 1) := by rw [hup]
          clear hgs
          repeat' ((conv => whnf); first | (refine ⟨fun h => ?_, fun h => ?_⟩ <;> try (exfalso; first | omega | exact absurd h (by decide) | exact h rfl | (simp at h; done))) | (refine ⟨_, gaps_h, (l, g), pg, leVs_of_eq rfl, .inl rfl, rfl, ?_⟩; show norm (L 1 ((gaps l g).map cI)) _) | (refine ⟨_, upto_h, (l, g), pu, leVs_of_eq rfl, .inl rfl, rfl, ?_⟩; show norm (I (upto l g)) _; rw [eU]) | (refine ⟨by omega, fun r hr => ?_⟩; obtain rfl := get_rowi (j := 0) hr rfl h0) | refine ⟨⟨by omega, by omega⟩, ?_⟩ | fail)
          conv => whnf
          refine ⟨Nat × (List Ride), fun xq => ⟨[(1, I g), (5, I (great l g)), (7, L 1 ((gaps l g).map cI)), (9, L 7 (xq.2.map encR)), (10, I xq.1)], [], 0⟩, fun xq => xq.1 ≤ (gaps l g).length ∧ Filled l g xq.1 xq.2, fun xq => (gaps l g).length - xq.1, ⟨(0, l), ?_, [], ⟨⟨rfl, rfl⟩, ⟨⟨rfl, rfl⟩, ⟨⟨rfl, rfl⟩, ⟨⟨rfl, rfl⟩, ⟨⟨rfl, rfl⟩, trivial⟩⟩⟩⟩⟩, trivial, rfl, rfl⟩, ?_⟩
          · (try dsimp only); exact ⟨Nat.zero_le _, Filled.start ls lok⟩
          rintro ⟨k, x⟩ hk
          obtain ⟨hk, hF⟩ : k ≤ (gaps l g).length ∧ Filled l g k x := hk
          (try dsimp only)
          have hFl := hF.len
          by_cases hkl : k < (gaps l g).length
          · have hn : (gaps l g)[k]? = some (gaps l g)[k] := List.getElem?_eq_getElem hkl
            generalize (gaps l g)[k] = n at hn
            have hm := gaps_mem ls lok (List.mem_of_getElem? hn)
            obtain ⟨hr0, m, hm1, hm2, hF'⟩ := hF.step ls lok hg.1 hg.2 hn
            have hml := hF'.len
            have eAdd := addT_ok hr0 hF.sorted hm1 (by omega)
            rw [decide_eq_true hm2] at eAdd
            have px : x.length ≤ 3000 ∧ Sorted x := ⟨by omega, hF.sorted⟩
            by_cases hk0 : 0 < k
            · obtain ⟨p, hp, hpn⟩ : ∃ p, (gaps l g)[k - 1]? = some p ∧ p < n := by
                have hk1 : k - 1 < (gaps l g).length := by omega
                refine ⟨(gaps l g)[k - 1], List.getElem?_eq_getElem hk1, ?_⟩
                have := List.pairwise_iff_getElem.1 (gaps_inc (g := g) ls) (k - 1) k hk1 hkl (by omega)
                rw [(List.getElem?_eq_some_iff.1 hn).2] at this
                exact this
              repeat' ((conv => whnf); first | (refine ⟨(k + 1, m), ⟨?_, by dsimp only; omega⟩, [], ⟨⟨rfl, rfl⟩, ⟨⟨rfl, rfl⟩, ⟨⟨rfl, rfl⟩, ⟨⟨rfl, rfl⟩, ⟨⟨rfl, rfl⟩, trivial⟩⟩⟩⟩⟩, trivial, rfl, rfl⟩; (try dsimp only); exact ⟨by omega, hF'⟩) | (refine ⟨fun h => ?_, fun h => ?_⟩ <;> try (exfalso; first | omega | exact absurd h (by decide) | exact h rfl | (simp at h; done))) | refine ⟨_, ride_h, (_, _), trivial, leVs_of_eq rfl, .inr rfl, rfl, ?_⟩ | (refine ⟨_, addW, (x, gapR g n), px, ⟨by first | exact leV_refl _ | rfl, by first | exact leV_refl _ | rfl, trivial⟩, .inl rfl, rfl, ?_⟩; show norm (addT (x, gapR g n)) _; rw [eAdd]) | (refine ⟨by omega, fun r hr => ?_⟩; first | obtain rfl := get_row hr hn | obtain rfl := get_row1 hr hk0 hp) | refine ⟨⟨by omega, by omega⟩, ?_⟩ | fail)
            · repeat' ((conv => whnf); first | (refine ⟨(k + 1, m), ⟨?_, by dsimp only; omega⟩, [], ⟨⟨rfl, rfl⟩, ⟨⟨rfl, rfl⟩, ⟨⟨rfl, rfl⟩, ⟨⟨rfl, rfl⟩, ⟨⟨rfl, rfl⟩, trivial⟩⟩⟩⟩⟩, trivial, rfl, rfl⟩; (try dsimp only); exact ⟨by omega, hF'⟩) | (refine ⟨fun h => ?_, fun h => ?_⟩ <;> try (exfalso; first | omega | exact absurd h (by decide) | exact h rfl | (simp at h; done))) | refine ⟨_, ride_h, (_, _), trivial, leVs_of_eq rfl, .inr rfl, rfl, ?_⟩ | (refine ⟨_, addW, (x, gapR g n), px, ⟨by first | exact leV_refl _ | rfl, by first | exact leV_refl _ | rfl, trivial⟩, .inl rfl, rfl, ?_⟩; show norm (addT (x, gapR g n)) _; rw [eAdd]) | (refine ⟨by omega, fun r hr => ?_⟩; first | obtain rfl := get_row hr hn) | refine ⟨⟨by omega, by omega⟩, ?_⟩ | fail)
          · have pgx : x.length ≤ 3000 ∧ ∀ y ∈ x, okR y := ⟨by omega, hF.ok⟩
            have pux : x.length ≤ 3000 := by omega
            by_cases h1c : (gaps l g).length = 100
            · repeat' ((conv => whnf); first | (refine ⟨fun h => ?_, fun h => ?_⟩ <;> try (exfalso; first | omega | exact absurd h (by decide) | exact h rfl | (simp at h; done))) | exact ⟨[], rfl, trivial, rfl⟩ | fail)
            · obtain ⟨d1, d2⟩ := hF.done ls lok hkl h1c
              have eG : L 1 ((gaps x g).map cI) = L 1 [] := by rw [d1]; rfl
              have eU : I (upto x g) = I (great l g) := by rw [d2]
              repeat' ((conv => whnf); first | (refine ⟨fun h => ?_, fun h => ?_⟩ <;> try (exfalso; first | omega | exact absurd h (by decide) | exact h rfl | (simp at h; done))) | (refine ⟨_, gaps_h, (x, g), pgx, leVs_of_eq rfl, .inl rfl, rfl, ?_⟩; show norm (L 1 ((gaps x g).map cI)) _; rw [eG]) | (refine ⟨_, upto_h, (x, g), pux, leVs_of_eq rfl, .inl rfl, rfl, ?_⟩; show norm (I (upto x g)) _; rw [eU]) | exact ⟨[], rfl, trivial, rfl⟩ | fail)
    · repeat' ((conv => whnf); first | (refine ⟨fun h => ?_, fun h => ?_⟩ <;> try (exfalso; first | omega | exact absurd h (by decide) | exact h rfl | (simp at h; done) | (rw [hr] at h; exact absurd h (by decide)))) | refine ⟨_, alive_h, (), trivial, leVs_of_eq rfl, .inr rfl, rfl, ?_⟩ | refine ⟨_, lright_h, _, trivial, leVs_of_eq rfl, .inr rfl, rfl, ?_⟩ | exact ⟨[], rfl, trivial, rfl⟩ | fail)
  · repeat' ((conv => whnf); first | (refine ⟨fun h => ?_, fun h => ?_⟩ <;> try (exfalso; first | omega | exact absurd h (by decide) | exact h rfl | (simp at h; done) | (exact hr h))) | refine ⟨_, alive_h, (), trivial, leVs_of_eq rfl, .inr rfl, rfl, ?_⟩ | refine ⟨_, lright_h, _, trivial, leVs_of_eq rfl, .inr rfl, rfl, ?_⟩ | exact ⟨[], rfl, trivial, rfl⟩ | fail)
theorem law_h : Holds Try.prog 9 lawS := holds_of mix Try.func9 lawLow (fun _ => rfl) lawV

/-! ### THE ROW's STEP -/
theorem own : ownKnob Try.prog.godebug = none := by kernel_rfl
theorem laidOut : laidOutB Try.prog = true := by kernel_rfl
set_option maxRecDepth 100000 in
theorem lifted (os : Os) (started : os.Started) (H : Type) (enc : TypeId × Value → H) :
    ReturnsInHanded {} Try.checked os 9 .any (Rows.ridesGapsSpec.pre6 enc Try.prog Try.f9 Rows.ridesGapsRow.domain false) (Rows.ridesGapsSpec.post enc Try.prog Try.f9 false true false false) := by
  refine returnsInHanded_of_change (C := Try.checked) own started (by kernel_rfl) Try.func9
    (ChangeSpec.witness6 (enc := enc) (C := Try.checked) false ⟨#[], #[.slice none 0 0, .int .i64 0], []⟩ 8 (by kernel_rfl) (by kernel_rfl) (by kernel_rfl) (by kernel_rfl)) ?_
  intro W base args ds gs before hval0 hW hcnd _
  have hval : ∀ (j : Nat) t v, Try.f9.params[j]? = some t → args[j]? = some v → Value.okWide Try.prog W .any base t v := hval0
  have hW' := hW
  obtain ⟨p, q, hA0, hV, rfl, hfz, hnd⟩ := hW
  have hA : DataW.TrodAll enc Try.prog W 0 (fun _ => true) true Try.f9.params.toList args.toList ds p := hA0
  rw [Try.params9] at hA hval
  obtain ⟨v0, vs0, d0, ds0, p0, q0, hargs, rfl, rfl, h0, r0⟩ := trodAll_cons hA
  obtain ⟨v1, vs1, d1, ds1, p1, q1, rfl, rfl, rfl, h1, r1⟩ := trodAll_cons r0
  obtain ⟨rfl, rfl, rfl⟩ := trodAll_nil r1
  obtain rfl : args = #[v0, v1] := by cases args; simp_all
  obtain ⟨rfl, rfl⟩ := trodVars_none hV
  have lt0 : ∀ x ∈ p0, x.block < W.heap.size := by obtain ⟨m, hm⟩ := h0; exact DataW.trod_lt m _ _ _ hm
  obtain ⟨z0, w0, x0⟩ := openRides (hval 0 22 v0 rfl rfl) h0
  have lt1 : ∀ x ∈ p1, x.block < W.heap.size := by obtain ⟨m, hm⟩ := h1; exact DataW.trod_lt m _ _ _ hm
  obtain ⟨z1, w1, x1⟩ := open_i Try.underlying3 (hval 1 3 v1 rfl rfl) h1
  clear hA0 hval0
  refine Calls.mono (law_calls law_h (z0, z1) trivial rfl (vs := [v0, v1]) (replist_mk x0 (replist_mk x1 replist_mk0))) fun e W' ⟨he, bel⟩ => ?_
  subst he
  exact ⟨_, rfl, _, _, _, [], _, [], hW', trodAll_mk1 (shut_bool Try.underlying4 _), (trodAll_cons_mk (Below.trod laidOut (by kernel_rfl) (of_decide_eq_true (by kernel_rfl)) h0 bel lt0) (trodAll_cons_mk (Below.trod laidOut (by kernel_rfl) (of_decide_eq_true (by kernel_rfl)) h1 bel lt1) trodAll_mk0)), rfl, bel.frame _, fun h => by cases h⟩

theorem over : Rows.ridesGapsRow.holds Try.pinned (OpenSpec.ofChange Rows.ridesGapsSpec) :=
  OpenClaim.holds_of_wide 9 Try.f9 rfl rfl rfl rfl rfl rfl rfl ⟨rfl, rfl, rfl, rfl, rfl⟩ rfl rfl rfl rfl rfl (by kernel_rfl) Try.func9 (by kernel_rfl)
    (of_decide_eq_true (by kernel_rfl)) (by unfold Func.isWrapper; first | (rw [if_pos (by decide +kernel)]; kernel_rfl) | (rw [if_neg (by decide +kernel)]; exact ⟨rfl, rfl⟩))
    (fun os started H enc _ => lifted os started H enc)

theorem proved : Rows.RidesGapsSaid := over
end Go.Proofs.Ytfghmpfiemmbgaa.lawGaps
