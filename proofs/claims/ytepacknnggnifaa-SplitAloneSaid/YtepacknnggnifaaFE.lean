/- Split: the reference's Even. -/
import Derived.Test.YtepacknnggnifaaFD
import Derived.Test.YtepacknnggnifaaP8
namespace Go.Proofs.Ytepacknnggnifaa
open Go.RowKit
def evT (a n : Int) : SV := .tup [L 1 ((if evErr a n = 0 then evenL a n n.toNat else []).map e1), I (evErr a n)]

/-! skiarea/skiarearef34.Even -/
def revenIr : IFn := ⟨41, [.tmp 4, .tmp 5],
  (.seq (.ops [
    ⟨(some 4), .mov, [.const (.slice none 0 0)], none⟩,
    ⟨(some 5), .mov, [.const (.int .i64 0)], none⟩] false)
  (.seq (.seq (.ops [
    ⟨(some 9), .mov, [.tmp 0], none⟩,
    ⟨(some 10), .cmp .lss, [.tmp 9, .const (.int .i64 0)], none⟩,
    ⟨(some 11), .mov, [.tmp 10], none⟩,
    ⟨(some 12), .mov, [.tmp 0], (some (11, false))⟩,
    ⟨(some 13), .cmp .gtr, [.tmp 12, .const (.int .i64 1099511627776)], (some (11, false))⟩,
    ⟨(some 14), .pick, [.tmp 11, .const (.bool true), .tmp 13], none⟩] false)
  (.cond (.tmp 14)
    (.seq (.ops [
      ⟨(some 4), .mov, [.const (.slice none 0 0)], none⟩,
      ⟨(some 5), .mov, [.const (.int .i64 2)], none⟩] false)
    .ret)
    .skip))
  (.seq (.seq (.ops [
    ⟨(some 15), .mov, [.tmp 1], none⟩,
    ⟨(some 16), .cmp .lss, [.tmp 15, .const (.int .i64 1)], none⟩,
    ⟨(some 17), .mov, [.tmp 16], none⟩,
    ⟨(some 18), .mov, [.tmp 1], (some (17, false))⟩,
    ⟨(some 19), .cmp .gtr, [.tmp 18, .const (.int .i64 64)], (some (17, false))⟩,
    ⟨(some 20), .pick, [.tmp 17, .const (.bool true), .tmp 19], none⟩] false)
  (.cond (.tmp 20)
    (.seq (.ops [
      ⟨(some 4), .mov, [.const (.slice none 0 0)], none⟩,
      ⟨(some 5), .mov, [.const (.int .i64 1)], none⟩] false)
    .ret)
    .skip))
  (.seq (.ops [
    ⟨(some 6), .nilOwn 3 1, [], none⟩] false)
  (.seq (.seq (.ops [
    ⟨(some 7), .mov, [.const (.int .i64 0)], none⟩] false)
  (.block 0
    (.loop
      (.seq (.seq (.ops [
        ⟨(some 21), .mov, [.tmp 7], none⟩,
        ⟨(some 22), .mov, [.tmp 1], none⟩,
        ⟨(some 23), .cmp .lss, [.tmp 21, .tmp 22], none⟩] false)
      (.cond (.tmp 23)
        .skip
        (.exit 0)))
      (.seq (.block 1
        (.seq (.ops [
          ⟨(some 26), .mov, [.tmp 0], none⟩,
          ⟨(some 27), .mov, [.tmp 1], none⟩,
          ⟨(some 28), .bin .quo .i64 false, [.tmp 26, .tmp 27], none⟩,
          ⟨(some 8), .mov, [.tmp 28], none⟩] false)
        (.seq (.seq (.ops [
          ⟨(some 29), .mov, [.tmp 7], none⟩,
          ⟨(some 30), .mov, [.tmp 0], none⟩,
          ⟨(some 31), .mov, [.tmp 1], none⟩,
          ⟨(some 32), .bin .rem .i64 false, [.tmp 30, .tmp 31], none⟩,
          ⟨(some 33), .cmp .lss, [.tmp 29, .tmp 32], none⟩] false)
        (.cond (.tmp 33)
          (.ops [
            ⟨(some 34), .mov, [.tmp 8], none⟩,
            ⟨(some 35), .bin .add .i64 false, [.tmp 34, .const (.int .i64 1)], none⟩,
            ⟨(some 8), .mov, [.tmp 35], none⟩] false)
          .skip))
        (.ops [
          ⟨(some 36), .mov, [.tmp 6], none⟩,
          ⟨(some 37), .mov, [.tmp 8], none⟩,
          ⟨(some 38), .buildSl 3 1, [.tmp 37], none⟩,
          ⟨(some 39), .append 3 1 8, [.tmp 36, .tmp 38], none⟩,
          ⟨(some 6), .mov, [.tmp 39], none⟩] false))))
      (.ops [
        ⟨(some 24), .mov, [.tmp 7], none⟩,
        ⟨(some 25), .bin .add .i64 false, [.tmp 24, .const (.int .i64 1)], none⟩,
        ⟨(some 7), .mov, [.tmp 25], none⟩] false))))))
  (.seq (.ops [
    ⟨(some 40), .mov, [.tmp 6], none⟩,
    ⟨(some 4), .mov, [.tmp 40], none⟩,
    ⟨(some 5), .mov, [.const (.int .i64 0)], none⟩] false)
  .ret))))))⟩
theorem revenLow : lowF Try.prog { owns := [(6, 3)] } Try.f15 = some revenIr := by kernel_rfl
def revenS : Spec := spec (Int × Int) (fun p => [I p.1, I p.2]) (fun _ => True) (fun p => evT p.1 p.2)
theorem revenV : fnV Try.prog revenIr revenS := by
  intro ⟨(a : Int), (n : Int)⟩ hx
  show vc _ _ _ _ ⟨argEnv 0 [I a, I n], [], 0⟩
  by_cases ha : a < 0 ∨ 1099511627776 < a
  · have he : evErr a n = 2 := if_pos ha
    repeat' ((conv => whnf); first | (refine ⟨fun h => ?_, fun h => ?_⟩ <;> try (exfalso; first | omega | exact absurd h (by decide) | exact h rfl)) | fail | fail)
    all_goals (refine ⟨[], rfl, trivial, ?_⟩; show leR _ (evT a n); unfold evT; rw [he]; exact ⟨rfl, rfl, trivial⟩)
  by_cases hn : n < 1 ∨ 64 < n
  · have he : evErr a n = 1 := by unfold evErr; rw [if_neg ha, if_pos hn]
    repeat' ((conv => whnf); first | (refine ⟨fun h => ?_, fun h => ?_⟩ <;> try (exfalso; first | omega | exact absurd h (by decide) | exact h rfl)) | fail | fail)
    all_goals (refine ⟨[], rfl, trivial, ?_⟩; show leR _ (evT a n); unfold evT; rw [he]; exact ⟨rfl, rfl, trivial⟩)
  have he : evErr a n = 0 := by unfold evErr; rw [if_neg ha, if_neg hn]
  have ed := Int.tdiv_eq_ediv_of_nonneg (b := n) (show 0 ≤ a by omega)
  have em := Int.tmod_eq_emod_of_nonneg (b := n) (show 0 ≤ a by omega)
  have d0 := Int.ediv_nonneg (show 0 ≤ a by omega) (show 0 ≤ n by omega)
  have d1 := Int.ediv_le_self n (show 0 ≤ a by omega)
  repeat' ((conv => whnf); first | (refine ⟨fun h => ?_, fun h => ?_⟩ <;> try (exfalso; first | omega | exact absurd h (by decide) | exact h rfl)) | fail | fail)
  refine ⟨Nat × (List (List CV)), fun xq => ⟨[(0, I a), (1, I n), (6, .osl 0), (7, I xq.1)], [(0, .row 3 1 xq.2)], 1⟩, fun xq => xq.1 ≤ n.toNat ∧ xq.2 = (evenL a n xq.1).map e1, fun xq => n.toNat - xq.1, ⟨(0, _), ?_, [(0, 0)], ⟨⟨rfl, rfl⟩, ⟨⟨rfl, rfl⟩, ⟨⟨rfl, rfl⟩, ⟨⟨rfl, rfl⟩, trivial⟩⟩⟩⟩, ⟨⟨rfl, rfl, rfl⟩, trivial⟩, rfl, rfl, rfl⟩, ?_⟩
  · (try dsimp only); exact ⟨Nat.zero_le _, rfl⟩
  rintro ⟨k, es⟩ hk
  obtain ⟨hk, rfl⟩ : k ≤ n.toNat ∧ es = (evenL a n k).map e1 := hk
  (try dsimp only)
  have hl : ((evenL a n k).map e1).length = k := by rw [List.length_map, evenL_len]
  by_cases hkn : (k : Int) < n
  · by_cases hm : (k : Int) < a % n
    · have hv : evI a n k = a / n + 1 := by unfold evI; rw [if_pos hm]
      repeat' ((conv => whnf); first | (refine ⟨fun h => ?_, fun h => ?_⟩ <;> try (exfalso; first | omega | exact absurd h (by decide) | exact h rfl)) | (refine ⟨⟨by omega, by omega, by omega⟩, ?_⟩; rw [ed]) | (refine ⟨by omega, ?_⟩; rw [em]) | (refine ⟨(k + 1, _), ⟨?_, by (try dsimp only); omega⟩, [(0, 1)], ⟨⟨rfl, rfl⟩, ⟨⟨rfl, rfl⟩, ⟨⟨rfl, rfl⟩, ⟨⟨rfl, rfl⟩, trivial⟩⟩⟩⟩, ⟨⟨rfl, rfl, rfl⟩, trivial⟩, rfl, rfl, rfl⟩; (try dsimp only); exact ⟨by omega, by rw [evenL_snoc, hv, List.map_append]; rfl⟩) | refine ⟨⟨by omega, by omega⟩, ?_⟩ | (refine ⟨⟨by simp only [List.length_cons, List.length_nil]; omega, by simp only [List.length_cons, List.length_nil]; omega⟩, ?_⟩) | fail)
    · have hv : evI a n k = a / n := by unfold evI; rw [if_neg hm, Int.add_zero]
      repeat' ((conv => whnf); first | (refine ⟨fun h => ?_, fun h => ?_⟩ <;> try (exfalso; first | omega | exact absurd h (by decide) | exact h rfl)) | (refine ⟨⟨by omega, by omega, by omega⟩, ?_⟩; rw [ed]) | (refine ⟨by omega, ?_⟩; rw [em]) | (refine ⟨(k + 1, _), ⟨?_, by (try dsimp only); omega⟩, [(0, 1)], ⟨⟨rfl, rfl⟩, ⟨⟨rfl, rfl⟩, ⟨⟨rfl, rfl⟩, ⟨⟨rfl, rfl⟩, trivial⟩⟩⟩⟩, ⟨⟨rfl, rfl, rfl⟩, trivial⟩, rfl, rfl, rfl⟩; (try dsimp only); exact ⟨by omega, by rw [evenL_snoc, hv, List.map_append]; rfl⟩) | refine ⟨⟨by omega, by omega⟩, ?_⟩ | (refine ⟨⟨by simp only [List.length_cons, List.length_nil]; omega, by simp only [List.length_cons, List.length_nil]; omega⟩, ?_⟩) | fail)
  · have hkk : k = n.toNat := by omega
    subst hkk
    repeat' ((conv => whnf); first | (refine ⟨fun h => ?_, fun h => ?_⟩ <;> try (exfalso; first | omega | exact absurd h (by decide) | exact h rfl)) | fail | fail)
    all_goals (refine ⟨[], rfl, trivial, ?_⟩; show leR _ (evT a n); unfold evT; rw [he]; exact ⟨rfl, rfl, trivial⟩)
theorem reven_h : Holds Try.prog 15 revenS := holds_of mix Try.func15 revenLow (fun _ => rfl) revenV

end Go.Proofs.Ytepacknnggnifaa
