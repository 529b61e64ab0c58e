/- Split: the reference's Split. -/
import Derived.Test.YtepacknnggnifaaFL
namespace Go.Proofs.Ytepacknnggnifaa
open Go.RowKit
theorem Good.incsB {a : Int} {ws : List Int} (g : Good a ws) {is : List Int} (hn : is.Nodup) (h0 : ∀ i ∈ is, 0 ≤ i) : (incs (qL a ws) is).length ≤ 1000000 ∧ ∀ x ∈ incs (qL a ws) is, -2199023255552 ≤ x ∧ x ≤ 2199023255552 := by
  have hl := g.len
  refine ⟨by rw [incs_len, qL_len]; omega, fun x hx => ?_⟩
  obtain ⟨i, hi⟩ := List.getElem?_of_mem hx
  have hin := (List.getElem?_eq_some_iff.1 hi).1
  rw [incs_len, qL_len] at hin
  obtain ⟨v, hv, v0, v1⟩ := g.incB hn h0 hin
  rw [hv] at hi; cases hi; omega

/-! skiarea/skiarearef34.Split -/
def rsplitIr : IFn := ⟨100, [.tmp 4, .tmp 5],
  (.seq (.ops [
    ⟨(some 4), .mov, [.const (.slice none 0 0)], none⟩,
    ⟨(some 5), .mov, [.const (.int .i64 0)], none⟩] false)
  (.seq (.seq (.ops [
    ⟨(some 15), .mov, [.tmp 1], none⟩,
    ⟨(some 16), .len, [.tmp 15], none⟩,
    ⟨(some 17), .cmp .gtr, [.tmp 16, .const (.int .i64 64)], none⟩] false)
  (.cond (.tmp 17)
    (.seq (.ops [
      ⟨(some 4), .mov, [.const (.slice none 0 0)], none⟩,
      ⟨(some 5), .mov, [.const (.int .i64 4)], none⟩] false)
    .ret)
    .skip))
  (.seq (.seq (.ops [
    ⟨(some 18), .mov, [.tmp 0], none⟩,
    ⟨(some 19), .cmp .lss, [.tmp 18, .const (.int .i64 0)], none⟩,
    ⟨(some 20), .mov, [.tmp 19], none⟩,
    ⟨(some 21), .mov, [.tmp 0], (some (20, false))⟩,
    ⟨(some 22), .cmp .gtr, [.tmp 21, .const (.int .i64 1099511627776)], (some (20, false))⟩,
    ⟨(some 23), .pick, [.tmp 20, .const (.bool true), .tmp 22], none⟩] false)
  (.cond (.tmp 23)
    (.seq (.ops [
      ⟨(some 4), .mov, [.const (.slice none 0 0)], none⟩,
      ⟨(some 5), .mov, [.const (.int .i64 2)], none⟩] false)
    .ret)
    .skip))
  (.seq (.seq (.ops [
    ⟨(some 6), .mov, [.const (.int .i64 0)], none⟩] false)
  (.block 0
    (.loop
      (.seq (.seq (.ops [
        ⟨(some 24), .mov, [.tmp 6], none⟩,
        ⟨(some 25), .mov, [.tmp 1], none⟩,
        ⟨(some 26), .len, [.tmp 25], none⟩,
        ⟨(some 27), .cmp .lss, [.tmp 24, .tmp 26], none⟩] false)
      (.cond (.tmp 27)
        .skip
        (.exit 0)))
      (.seq (.block 1
        (.seq (.ops [
          ⟨(some 30), .mov, [.tmp 1], none⟩,
          ⟨(some 31), .mov, [.tmp 6], none⟩,
          ⟨(some 32), .idx 1, [.tmp 30, .tmp 31], none⟩,
          ⟨(some 33), .load 1 false, [.tmp 32], none⟩,
          ⟨(some 34), .cmp .lss, [.tmp 33, .const (.int .i64 0)], none⟩,
          ⟨(some 35), .mov, [.tmp 34], none⟩,
          ⟨(some 36), .mov, [.tmp 1], (some (35, false))⟩,
          ⟨(some 37), .mov, [.tmp 6], (some (35, false))⟩,
          ⟨(some 38), .idx 1, [.tmp 36, .tmp 37], (some (35, false))⟩,
          ⟨(some 39), .load 1 false, [.tmp 38], (some (35, false))⟩,
          ⟨(some 40), .cmp .gtr, [.tmp 39, .const (.int .i64 1000000000)], (some (35, false))⟩,
          ⟨(some 41), .pick, [.tmp 35, .const (.bool true), .tmp 40], none⟩] false)
        (.cond (.tmp 41)
          (.seq (.ops [
            ⟨(some 4), .mov, [.const (.slice none 0 0)], none⟩,
            ⟨(some 5), .mov, [.const (.int .i64 2)], none⟩] false)
          .ret)
          .skip)))
      (.ops [
        ⟨(some 28), .mov, [.tmp 6], none⟩,
        ⟨(some 29), .bin .add .i64 false, [.tmp 28, .const (.int .i64 1)], none⟩,
        ⟨(some 6), .mov, [.tmp 29], none⟩] false))))))
  (.seq (.ops [
    ⟨(some 42), .mov, [.tmp 1], none⟩,
    ⟨(some 43), .call 29, [.tmp 42], none⟩,
    ⟨(some 7), .mov, [.tmp 43], none⟩] false)
  (.seq (.seq (.ops [
    ⟨(some 44), .mov, [.tmp 7], none⟩,
    ⟨(some 45), .cmp .eql, [.tmp 44, .const (.int .i64 0)], none⟩] false)
  (.cond (.tmp 45)
    (.seq (.ops [
      ⟨(some 4), .mov, [.const (.slice none 0 0)], none⟩,
      ⟨(some 5), .mov, [.const (.int .i64 1)], none⟩] false)
    .ret)
    .skip))
  (.seq (.ops [
    ⟨(some 8), .nilOwn 3 1, [], none⟩,
    ⟨(some 9), .nilOwn 3 1, [], none⟩] false)
  (.seq (.seq (.ops [
    ⟨(some 10), .mov, [.const (.int .i64 0)], none⟩] false)
  (.block 2
    (.loop
      (.seq (.seq (.ops [
        ⟨(some 46), .mov, [.tmp 10], none⟩,
        ⟨(some 47), .mov, [.tmp 1], none⟩,
        ⟨(some 48), .len, [.tmp 47], none⟩,
        ⟨(some 49), .cmp .lss, [.tmp 46, .tmp 48], none⟩] false)
      (.cond (.tmp 49)
        .skip
        (.exit 2)))
      (.seq (.block 3
        (.seq (.ops [
          ⟨(some 53), .mov, [.tmp 0], none⟩,
          ⟨(some 54), .mov, [.tmp 1], none⟩,
          ⟨(some 55), .mov, [.tmp 10], none⟩,
          ⟨(some 56), .idx 1, [.tmp 54, .tmp 55], none⟩,
          ⟨(some 57), .load 1 false, [.tmp 56], none⟩,
          ⟨(some 58), .mov, [.tmp 7], none⟩,
          ⟨(some 59), .call 23, [.tmp 53, .tmp 57, .tmp 58], none⟩,
          ⟨(some 52), .mov, [.tmp 59], none⟩,
          ⟨(some 60), .extract 0, [.tmp 52], none⟩,
          ⟨(some 61), .extract 1, [.tmp 52], none⟩,
          ⟨(some 11), .mov, [.tmp 60], none⟩,
          ⟨(some 12), .mov, [.tmp 61], none⟩] false)
        (.seq (.ops [
          ⟨(some 62), .mov, [.tmp 8], none⟩,
          ⟨(some 63), .mov, [.tmp 11], none⟩,
          ⟨(some 64), .buildSl 3 1, [.tmp 63], none⟩,
          ⟨(some 65), .append 3 1 8, [.tmp 62, .tmp 64], none⟩,
          ⟨(some 8), .mov, [.tmp 65], none⟩] false)
        (.ops [
          ⟨(some 66), .mov, [.tmp 9], none⟩,
          ⟨(some 67), .mov, [.tmp 12], none⟩,
          ⟨(some 68), .buildSl 3 1, [.tmp 67], none⟩,
          ⟨(some 69), .append 3 1 8, [.tmp 66, .tmp 68], none⟩,
          ⟨(some 9), .mov, [.tmp 69], none⟩] false))))
      (.ops [
        ⟨(some 50), .mov, [.tmp 10], none⟩,
        ⟨(some 51), .bin .add .i64 false, [.tmp 50, .const (.int .i64 1)], none⟩,
        ⟨(some 10), .mov, [.tmp 51], none⟩] false))))))
  (.seq (.block 4
    (.loop
      (.seq (.seq (.ops [
        ⟨(some 70), .mov, [.tmp 8], none⟩,
        ⟨(some 71), .call 29, [.tmp 70], none⟩,
        ⟨(some 72), .mov, [.tmp 0], none⟩,
        ⟨(some 73), .cmp .lss, [.tmp 71, .tmp 72], none⟩] false)
      (.cond (.tmp 73)
        .skip
        (.exit 4)))
      (.block 5
        (.seq (.ops [
          ⟨(some 13), .mov, [.const (.int .i64 0)], none⟩] false)
        (.seq (.seq (.ops [
          ⟨(some 14), .mov, [.const (.int .i64 1)], none⟩] false)
        (.block 6
          (.loop
            (.seq (.seq (.ops [
              ⟨(some 74), .mov, [.tmp 14], none⟩,
              ⟨(some 75), .mov, [.tmp 9], none⟩,
              ⟨(some 76), .len, [.tmp 75], none⟩,
              ⟨(some 77), .cmp .lss, [.tmp 74, .tmp 76], none⟩] false)
            (.cond (.tmp 77)
              .skip
              (.exit 6)))
            (.seq (.block 7
              (.seq (.ops [
                ⟨(some 80), .mov, [.tmp 9], none⟩,
                ⟨(some 81), .mov, [.tmp 14], none⟩,
                ⟨(some 82), .idx 1, [.tmp 80, .tmp 81], none⟩,
                ⟨(some 83), .load 1 false, [.tmp 82], none⟩,
                ⟨(some 84), .mov, [.tmp 9], none⟩,
                ⟨(some 85), .mov, [.tmp 13], none⟩,
                ⟨(some 86), .idx 1, [.tmp 84, .tmp 85], none⟩,
                ⟨(some 87), .load 1 false, [.tmp 86], none⟩,
                ⟨(some 88), .cmp .gtr, [.tmp 83, .tmp 87], none⟩] true)
              (.cond (.tmp 88)
                (.ops [
                  ⟨(some 89), .mov, [.tmp 14], none⟩,
                  ⟨(some 13), .mov, [.tmp 89], none⟩] false)
                .skip)))
            (.ops [
              ⟨(some 78), .mov, [.tmp 14], none⟩,
              ⟨(some 79), .bin .add .i64 false, [.tmp 78, .const (.int .i64 1)], none⟩,
              ⟨(some 14), .mov, [.tmp 79], none⟩] false))))))
        (.seq (.ops [
          ⟨(some 90), .mov, [.tmp 8], none⟩,
          ⟨(some 91), .mov, [.tmp 13], none⟩,
          ⟨(some 92), .idx 1, [.tmp 90, .tmp 91], none⟩,
          ⟨(some 93), .load 1 false, [.tmp 92], none⟩,
          ⟨(some 94), .bin .add .i64 false, [.tmp 93, .const (.int .i64 1)], none⟩,
          ⟨(some 95), .idx 1, [.tmp 90, .tmp 91], none⟩,
          ⟨none, .store 1, [.tmp 95, .tmp 94], none⟩] false)
        (.ops [
          ⟨(some 96), .mov, [.tmp 9], none⟩,
          ⟨(some 97), .mov, [.tmp 13], none⟩,
          ⟨(some 98), .idx 1, [.tmp 96, .tmp 97], none⟩,
          ⟨none, .store 1, [.tmp 98, .const (.int .i64 (-1))], none⟩] false))))))))
  (.seq (.ops [
    ⟨(some 99), .mov, [.tmp 8], none⟩,
    ⟨(some 4), .mov, [.tmp 99], none⟩,
    ⟨(some 5), .mov, [.const (.int .i64 0)], none⟩] false)
  .ret))))))))))⟩
theorem rsplitLow : lowF Try.prog { owns := [(8, 3), (9, 3)] } Try.f12 = some rsplitIr := by kernel_rfl
def rsplitS : Spec := spec (Int × List Int) (fun p => [I p.1, L 1 (p.2.map e1)]) (fun p => p.2.length ≤ 1000000) (fun p => splT p.1 p.2)
theorem rsplitV : fnV Try.prog rsplitIr rsplitS := by
  intro ⟨(a : Int), (ws : List Int)⟩ hx
  replace hx : ws.length ≤ 1000000 := hx
  have hl : (ws.map e1).length = ws.length := List.length_map ..
  show vc _ _ _ _ ⟨argEnv 0 [I a, L 1 (ws.map e1)], [], 0⟩
  by_cases h8 : 64 < ws.length
  · have hc : chkF a ws = 4 := if_pos h8
    repeat' ((conv => whnf); first | (refine ⟨fun h => ?_, fun h => ?_⟩ <;> try (exfalso; first | omega | exact absurd h (by decide) | exact h rfl)) | fail | fail)
    all_goals (refine ⟨[], rfl, trivial, ?_⟩; show leR _ (splT a ws); unfold splT; rw [hc]; exact ⟨rfl, rfl, trivial⟩)
  by_cases ha : a < 0 ∨ 1099511627776 < a
  · have hc : chkF a ws = 2 := by unfold chkF; rw [if_neg h8, if_pos ha]
    repeat' ((conv => whnf); first | (refine ⟨fun h => ?_, fun h => ?_⟩ <;> try (exfalso; first | omega | exact absurd h (by decide) | exact h rfl)) | fail | fail)
    all_goals (refine ⟨[], rfl, trivial, ?_⟩; show leR _ (splT a ws); unfold splT; rw [hc]; exact ⟨rfl, rfl, trivial⟩)
  repeat' ((conv => whnf); first | (refine ⟨fun h => ?_, fun h => ?_⟩ <;> try (exfalso; first | omega | exact absurd h (by decide) | exact h rfl)) | fail | fail)
  refine ⟨Nat, fun xq => ⟨[(0, I a), (1, L 1 (ws.map e1)), (6, I xq)], [], 0⟩, fun xq => xq ≤ ws.length ∧ ∀ w ∈ ws.take xq, okW w, fun xq => ws.length - xq, ⟨0, ?_, [], ⟨⟨rfl, rfl⟩, ⟨⟨rfl, rfl⟩, ⟨⟨rfl, rfl⟩, trivial⟩⟩⟩, trivial, rfl, rfl, rfl⟩, ?_⟩
  · (try dsimp only); exact ⟨Nat.zero_le _, by simp⟩
  rintro k hk
  obtain ⟨hk, hn⟩ : k ≤ ws.length ∧ ∀ w ∈ ws.take k, okW w := hk
  (try dsimp only)
  by_cases hkl : k < ws.length
  · obtain ⟨x, hx⟩ := getElem_some hkl
    by_cases hw : okW x
    · have hw' := hw
      unfold okW at hw'
      repeat' ((conv => whnf); first | (refine ⟨k + 1, ⟨?_, by (try dsimp only); omega⟩, [], ⟨⟨rfl, rfl⟩, ⟨⟨rfl, rfl⟩, ⟨⟨rfl, rfl⟩, trivial⟩⟩⟩, trivial, rfl, rfl, rfl⟩; (try dsimp only); exact ⟨by omega, fun y hy => by rw [take_snoc ws k x hx] at hy; rcases List.mem_append.1 hy with h | h; exact hn y h; rw [List.mem_singleton] at h; subst h; exact hw⟩) | (refine ⟨fun h => ?_, fun h => ?_⟩ <;> try (exfalso; first | omega | exact absurd h (by decide) | exact h rfl)) | (refine ⟨by omega, fun r hrr => ?_⟩; obtain rfl := get_row hrr hx) | refine ⟨⟨by omega, by omega⟩, ?_⟩ | fail)
    · have hw' := hw
      unfold okW at hw'
      have hc : chkF a ws = 2 := by unfold chkF; rw [if_neg h8, if_neg ha, if_neg fun h => hw (h x (List.mem_of_getElem? hx))]
      repeat' ((conv => whnf); first | (refine ⟨fun h => ?_, fun h => ?_⟩ <;> try (exfalso; first | omega | exact absurd h (by decide) | exact h rfl)) | (refine ⟨by omega, fun r hrr => ?_⟩; obtain rfl := get_row hrr hx) | fail | fail)
      all_goals (refine ⟨[], rfl, trivial, ?_⟩; show leR _ (splT a ws); unfold splT; rw [hc]; exact ⟨rfl, rfl, trivial⟩)
  · rw [take_end hkl] at hn
    obtain ⟨t0, t1⟩ := sum_ok hn
    have hsw : ws.length ≤ 1000000 ∧ ∀ x ∈ ws, -2199023255552 ≤ x ∧ x ≤ 2199023255552 := ⟨by omega, fun x hx => by have := hn x hx; unfold okW at this; omega⟩
    by_cases h0 : ws.sum = 0
    · have hc : chkF a ws = 1 := by unfold chkF; rw [if_neg h8, if_neg ha, if_pos hn, if_pos h0]
      repeat' ((conv => whnf); first | (refine ⟨fun h => ?_, fun h => ?_⟩ <;> try (exfalso; first | omega | exact absurd h (by decide) | exact h rfl)) | (refine ⟨_, sum_h, ws, hsw, leVs_of_eq rfl, .inl rfl, rfl, ?_⟩; show norm (I ws.sum) _) | fail | fail)
      all_goals (refine ⟨[], rfl, trivial, ?_⟩; show leR _ (splT a ws); unfold splT; rw [hc]; exact ⟨rfl, rfl, trivial⟩)
    · have hc : chkF a ws = 0 := by unfold chkF; rw [if_neg h8, if_neg ha, if_pos hn, if_neg h0]
      have g := good_of hc
      repeat' ((conv => whnf); first | (refine ⟨fun h => ?_, fun h => ?_⟩ <;> try (exfalso; first | omega | exact absurd h (by decide) | exact h rfl)) | (refine ⟨_, sum_h, ws, hsw, leVs_of_eq rfl, .inl rfl, rfl, ?_⟩; show norm (I ws.sum) _) | fail | fail)
      refine ⟨Nat × (List (List CV)) × (List (List CV)), fun xq => ⟨[(0, I a), (1, L 1 (ws.map e1)), (7, I ws.sum), (8, .osl 0), (9, .osl 1), (10, I xq.1)], [(0, .row 3 1 xq.2.1), (1, .row 3 1 xq.2.2)], 2⟩, fun xq => xq.1 ≤ ws.length ∧ xq.2.1 = ((qL a ws).take xq.1).map e1 ∧ xq.2.2 = ((rL a ws).take xq.1).map e1, fun xq => ws.length - xq.1, ⟨(0, _, _), ?_, [(0, 0), (1, 1)], ⟨⟨rfl, rfl⟩, ⟨⟨rfl, rfl⟩, ⟨⟨rfl, rfl⟩, ⟨⟨rfl, rfl⟩, ⟨⟨rfl, rfl⟩, ⟨⟨rfl, rfl⟩, trivial⟩⟩⟩⟩⟩⟩, ⟨⟨rfl, rfl, rfl⟩, ⟨⟨rfl, rfl, rfl⟩, trivial⟩⟩, rfl, rfl, rfl⟩, ?_⟩
      · (try dsimp only); exact ⟨Nat.zero_le _, rfl, rfl⟩
      rintro ⟨k, ps, rs⟩ hk
      obtain ⟨hk, rfl, rfl⟩ : k ≤ ws.length ∧ ps = ((qL a ws).take k).map e1 ∧ rs = ((rL a ws).take k).map e1 := hk
      (try dsimp only)
      have hlq : (((qL a ws).take k).map e1).length = k := by rw [List.length_map, List.length_take, qL_len]; omega
      have hlr : (((rL a ws).take k).map e1).length = k := by rw [List.length_map, List.length_take, rL_len]; omega
      by_cases hkl : k < ws.length
      · obtain ⟨w, hw⟩ := getElem_some hkl
        obtain ⟨w0, w1⟩ := g.wOk w (List.mem_of_getElem? hw)
        have hws := le_sum (fun w hw => (g.wOk w hw).1) w (List.mem_of_getElem? hw)
        have hs0 := g.s0
        have hs1 := g.s1
        have ha0 := g.a0
        have ha1 := g.a1
        repeat' ((conv => whnf); first | (refine ⟨fun h => ?_, fun h => ?_⟩ <;> try (exfalso; first | omega | exact absurd h (by decide) | exact h rfl)) | (refine ⟨_, quo_h, (a, w, ws.sum), (by show (0 ≤ a ∧ a ≤ 1099511627776) ∧ (0 ≤ w ∧ w ≤ 1000000000) ∧ (1 ≤ ws.sum ∧ ws.sum ≤ 64000000000) ∧ w ≤ ws.sum; omega), leVs_of_eq rfl, .inl rfl, rfl, ?_⟩; show norm (.tup [I (a * w / ws.sum), I (a * w % ws.sum)]) _) | (refine ⟨(k + 1, _, _), ⟨?_, by (try dsimp only); omega⟩, [(0, 2), (1, 3)], ⟨⟨rfl, rfl⟩, ⟨⟨rfl, rfl⟩, ⟨⟨rfl, rfl⟩, ⟨⟨rfl, rfl⟩, ⟨⟨rfl, rfl⟩, ⟨⟨rfl, rfl⟩, trivial⟩⟩⟩⟩⟩⟩, ⟨⟨rfl, rfl, rfl⟩, ⟨⟨rfl, rfl, rfl⟩, trivial⟩⟩, rfl, rfl, rfl⟩; (try dsimp only); exact ⟨by omega, by rw [take_snoc _ k _ (qL_get hw), List.map_append]; rfl, by rw [take_snoc _ k _ (rL_get hw), List.map_append]; rfl⟩) | (refine ⟨by omega, fun r hrr => ?_⟩; (have hre : r = e1 w := by (first | exact get_row hrr hw | fail)); subst hre) | refine ⟨⟨by omega, by omega⟩, ?_⟩ | (refine ⟨⟨by simp only [List.length_cons, List.length_nil]; omega, by simp only [List.length_cons, List.length_nil]; omega⟩, ?_⟩) | fail)
      · rw [List.take_of_length_le (by rw [qL_len]; omega), List.take_of_length_le (by rw [rL_len]; omega)]
        repeat' ((conv => whnf); first | (refine ⟨fun h => ?_, fun h => ?_⟩ <;> try (exfalso; first | omega | exact absurd h (by decide) | exact h rfl)) | fail | fail)
        clear hk hkl hlq hlr
        obtain ⟨hle, hlt⟩ := g.left
        refine ⟨Nat × (List (List CV)) × (List (List CV)), fun xq => ⟨[(0, I a), (8, .osl 0), (9, .osl 1)], [(0, .row 3 1 xq.2.1), (1, .row 3 1 xq.2.2)], 2⟩, fun xq => xq.1 ≤ leftN a ws ∧ xq.2.1 = (incs (qL a ws) ((ordL (rL a ws)).take xq.1)).map e1 ∧ xq.2.2 = (marks (rL a ws) ((ordL (rL a ws)).take xq.1)).map e1, fun xq => leftN a ws - xq.1, ⟨(0, _, _), ?_, [], ⟨⟨rfl, rfl⟩, ⟨⟨rfl, rfl⟩, ⟨⟨rfl, rfl⟩, trivial⟩⟩⟩, ⟨⟨rfl, rfl, rfl⟩, ⟨⟨rfl, rfl, rfl⟩, trivial⟩⟩, rfl, rfl, rfl⟩, ?_⟩
        · (try dsimp only); exact ⟨Nat.zero_le _, rfl, rfl⟩
        rintro ⟨m, ps, rs⟩ hk
        obtain ⟨hm, rfl, rfl⟩ : m ≤ leftN a ws ∧ ps = (incs (qL a ws) ((ordL (rL a ws)).take m)).map e1 ∧ rs = (marks (rL a ws) ((ordL (rL a ws)).take m)).map e1 := hk
        (try dsimp only)
        have hnn : ∀ i ∈ (ordL (rL a ws)).take m, ∃ c : Nat, c < ws.length ∧ i = c := fun i hi => by have := ordL_mem (List.mem_of_mem_take hi); rw [rL_len] at this; exact this
        have hnd : ((ordL (rL a ws)).take m).Nodup := (ordL_nodup _).sublist (List.take_sublist _ _)
        have hn0 : ∀ i ∈ (ordL (rL a ws)).take m, 0 ≤ i := fun i hi => by obtain ⟨c, _, rfl⟩ := hnn i hi; omega
        have hpre := g.incsB hnd hn0
        have hsum : (incs (qL a ws) ((ordL (rL a ws)).take m)).sum = (qL a ws).sum + m := by rw [incs_sum _ _ fun i hi => by rw [qL_len]; exact hnn i hi, List.length_take, ordL_len, rL_len]; omega
        have hlm : (marks (rL a ws) ((ordL (rL a ws)).take m)).length = ws.length := by rw [marks_len, rL_len]
        have hlm1 : ((marks (rL a ws) ((ordL (rL a ws)).take m)).map e1).length = ws.length := by rw [List.length_map, hlm]
        have hlq1 : ((incs (qL a ws) ((ordL (rL a ws)).take m)).map e1).length = ws.length := by rw [List.length_map, incs_len, qL_len]
        by_cases hml : m < leftN a ws
        · repeat' ((conv => whnf); first | (refine ⟨fun h => ?_, fun h => ?_⟩ <;> try (exfalso; first | omega | exact absurd h (by decide) | exact h rfl)) | (refine ⟨_, sum_h, (incs (qL a ws) ((ordL (rL a ws)).take m)), hpre, leVs_of_eq rfl, .inr rfl, rfl, ?_⟩; show norm (I (incs (qL a ws) ((ordL (rL a ws)).take m)).sum) _; rw [hsum]) | fail | fail)
          refine ⟨Nat × Nat, fun xq => ⟨[(0, I a), (8, .osl 0), (9, .osl 1), (13, I xq.1), (14, I xq.2)], [(0, .row 3 1 ((incs (qL a ws) ((ordL (rL a ws)).take m)).map e1)), (1, .row 3 1 ((marks (rL a ws) ((ordL (rL a ws)).take m)).map e1))], 2⟩, fun xq => (1 ≤ xq.2 ∧ xq.2 ≤ ws.length) ∧ xq.1 < xq.2 ∧ IsBest (marks (rL a ws) ((ordL (rL a ws)).take m)) xq.1 xq.2, fun xq => ws.length - xq.2, ⟨(0, 1), ?_, [], ⟨⟨rfl, rfl⟩, ⟨⟨rfl, rfl⟩, ⟨⟨rfl, rfl⟩, ⟨⟨rfl, rfl⟩, ⟨⟨rfl, rfl⟩, trivial⟩⟩⟩⟩⟩, ⟨⟨rfl, rfl, rfl⟩, ⟨⟨rfl, rfl, rfl⟩, trivial⟩⟩, rfl, rfl, rfl⟩, ?_⟩
          · (try dsimp only); exact ⟨⟨Nat.le_refl _, by omega⟩, Nat.zero_lt_one, best_start (by rw [hlm]; omega)⟩
          rintro ⟨b, i⟩ hk
          obtain ⟨⟨i0, i1⟩, hbi, hbest⟩ : (1 ≤ i ∧ i ≤ ws.length) ∧ b < i ∧ IsBest (marks (rL a ws) ((ordL (rL a ws)).take m)) b i := hk
          (try dsimp only)
          obtain ⟨y, hy⟩ := getElem_some (xs := (marks (rL a ws) ((ordL (rL a ws)).take m))) (k := b) (by rw [hlm]; omega)
          have gy : ((marks (rL a ws) ((ordL (rL a ws)).take m)).map e1)[(b : Int).toNat]? = some [.int .i64 y] := get_e1 hy
          by_cases hil : i < ws.length
          · obtain ⟨x, hx⟩ := getElem_some (xs := (marks (rL a ws) ((ordL (rL a ws)).take m))) (k := i) (by rw [hlm]; omega)
            have gx : ((marks (rL a ws) ((ordL (rL a ws)).take m)).map e1)[(i : Int).toNat]? = some [.int .i64 x] := get_e1 hx
            by_cases hxy : y < x
            · repeat' ((conv => whnf); first | (refine ⟨fun h => ?_, fun h => ?_⟩ <;> try (exfalso; first | omega | exact absurd h (by decide) | exact h rfl)) | refine get_at gx ?_ | refine get_at gy ?_ | (refine ⟨(_, i + 1), ⟨?_, by (try dsimp only); omega⟩, [], ⟨⟨rfl, rfl⟩, ⟨⟨rfl, rfl⟩, ⟨⟨rfl, rfl⟩, ⟨⟨rfl, rfl⟩, ⟨⟨rfl, rfl⟩, trivial⟩⟩⟩⟩⟩, ⟨⟨rfl, rfl, rfl⟩, ⟨⟨rfl, rfl, rfl⟩, trivial⟩⟩, rfl, rfl, rfl⟩; (try dsimp only); exact ⟨⟨by omega, by omega⟩, by omega, best_up hbest hx hy hxy⟩) | refine ⟨⟨by omega, by omega⟩, ?_⟩ | fail)
            · repeat' ((conv => whnf); first | (refine ⟨fun h => ?_, fun h => ?_⟩ <;> try (exfalso; first | omega | exact absurd h (by decide) | exact h rfl)) | refine get_at gx ?_ | refine get_at gy ?_ | (refine ⟨(_, i + 1), ⟨?_, by (try dsimp only); omega⟩, [], ⟨⟨rfl, rfl⟩, ⟨⟨rfl, rfl⟩, ⟨⟨rfl, rfl⟩, ⟨⟨rfl, rfl⟩, ⟨⟨rfl, rfl⟩, trivial⟩⟩⟩⟩⟩, ⟨⟨rfl, rfl, rfl⟩, ⟨⟨rfl, rfl, rfl⟩, trivial⟩⟩, rfl, rfl, rfl⟩; (try dsimp only); exact ⟨⟨by omega, by omega⟩, by omega, best_stay hbest hbi hx hy hxy⟩) | refine ⟨⟨by omega, by omega⟩, ?_⟩ | fail)
          · have hin : i = ws.length := by omega
            subst hin
            have hb := best_next (rL_len a ws) (fun x hx => by obtain ⟨w, _, rfl⟩ := List.mem_map.1 hx; exact (g.r w).1) (by omega) hbest
            obtain ⟨v, hv, v0, v1⟩ := g.incB hnd hn0 (c := b) hbi
            have gv : ((incs (qL a ws) ((ordL (rL a ws)).take m)).map e1)[(b : Int).toNat]? = some [.int .i64 v] := get_e1 hv
            have hps : ((incs (qL a ws) ((ordL (rL a ws)).take m)).map e1).set (b : Int).toNat [.int .i64 (v + 1)] = (incs (qL a ws) ((ordL (rL a ws)).take (m + 1))).map e1 := by rw [map_set1, Int.toNat_natCast, take_snoc _ m _ hb, incs_snoc, incr_eq hv]
            have hrs : ((marks (rL a ws) ((ordL (rL a ws)).take m)).map e1).set (b : Int).toNat [.int .i64 (-1)] = (marks (rL a ws) ((ordL (rL a ws)).take (m + 1))).map e1 := by rw [map_set1, take_snoc _ m _ hb, marks_snoc]
            repeat' ((conv => whnf); first | (refine ⟨fun h => ?_, fun h => ?_⟩ <;> try (exfalso; first | omega | exact absurd h (by decide) | exact h rfl)) | refine get_at gv ?_ | refine get_at gy ?_ | (refine ⟨(m + 1, _, _), ⟨?_, by (try dsimp only); omega⟩, [], ⟨⟨rfl, rfl⟩, ⟨⟨rfl, rfl⟩, ⟨⟨rfl, rfl⟩, trivial⟩⟩⟩, ⟨⟨rfl, rfl, rfl⟩, ⟨⟨rfl, rfl, rfl⟩, trivial⟩⟩, rfl, rfl, rfl⟩; (try dsimp only); exact ⟨by omega, hps, hrs⟩) | refine ⟨⟨by omega, by omega⟩, ?_⟩ | fail)
        · have hmm : m = leftN a ws := by omega
          subst hmm
          repeat' ((conv => whnf); first | (refine ⟨fun h => ?_, fun h => ?_⟩ <;> try (exfalso; first | omega | exact absurd h (by decide) | exact h rfl)) | (refine ⟨_, sum_h, (incs (qL a ws) ((ordL (rL a ws)).take (leftN a ws))), hpre, leVs_of_eq rfl, .inr rfl, rfl, ?_⟩; show norm (I (incs (qL a ws) ((ordL (rL a ws)).take (leftN a ws))).sum) _; rw [hsum]) | fail | fail)
          all_goals (refine ⟨[], rfl, trivial, ?_⟩; show leR _ (splT a ws); unfold splT; rw [if_pos hc, hc]; exact ⟨rfl, rfl, trivial⟩)
theorem rsplit_h : Holds Try.prog 12 rsplitS := holds_of mix Try.func12 rsplitLow (fun _ => rfl) rsplitV

end Go.Proofs.Ytepacknnggnifaa
