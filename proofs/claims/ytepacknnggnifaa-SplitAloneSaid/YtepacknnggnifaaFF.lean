/- Split: Even. -/
import Derived.Test.YtepacknnggnifaaFE
import Derived.Test.YtepacknnggnifaaF8
namespace Go.Proofs.Ytepacknnggnifaa
open Go.RowKit
theorem fillE_get (a n : Int) {k j : Nat} (h : j < k) : (fillE a n k j)[j]? = some 0 := by
  obtain ⟨m, hm⟩ : ∃ m, k - j = m + 1 := ⟨k - j - 1, by omega⟩
  rw [fillE, List.getElem?_append_right (by rw [evenL_len]; omega), evenL_len, Nat.sub_self, hm, List.replicate_succ]; rfl

/-! skiarea/split.Even -/
def evenIr : IFn := ⟨46, [.tmp 4, .tmp 5],
  (.seq (.ops [
    ⟨(some 4), .mov, [.const (.slice none 0 0)], none⟩,
    ⟨(some 5), .mov, [.const (.int .i64 0)], none⟩] false)
  (.seq (.seq (.ops [
    ⟨(some 8), .mov, [.tmp 0], none⟩,
    ⟨(some 9), .cmp .lss, [.tmp 8, .const (.int .i64 0)], none⟩,
    ⟨(some 10), .mov, [.tmp 9], none⟩,
    ⟨(some 11), .mov, [.tmp 0], (some (10, false))⟩,
    ⟨(some 12), .cmp .gtr, [.tmp 11, .const (.int .i64 1099511627776)], (some (10, false))⟩,
    ⟨(some 13), .pick, [.tmp 10, .const (.bool true), .tmp 12], none⟩] false)
  (.cond (.tmp 13)
    (.seq (.ops [
      ⟨(some 4), .mov, [.const (.slice none 0 0)], none⟩,
      ⟨(some 5), .mov, [.const (.int .i64 2)], none⟩] false)
    .ret)
    .skip))
  (.seq (.seq (.ops [
    ⟨(some 14), .mov, [.tmp 1], none⟩,
    ⟨(some 15), .cmp .lss, [.tmp 14, .const (.int .i64 1)], none⟩,
    ⟨(some 16), .mov, [.tmp 15], none⟩,
    ⟨(some 17), .mov, [.tmp 1], (some (16, false))⟩,
    ⟨(some 18), .cmp .gtr, [.tmp 17, .const (.int .i64 64)], (some (16, false))⟩,
    ⟨(some 19), .pick, [.tmp 16, .const (.bool true), .tmp 18], none⟩] false)
  (.cond (.tmp 19)
    (.seq (.ops [
      ⟨(some 4), .mov, [.const (.slice none 0 0)], none⟩,
      ⟨(some 5), .mov, [.const (.int .i64 1)], none⟩] false)
    .ret)
    .skip))
  (.seq (.ops [
    ⟨(some 20), .mov, [.tmp 1], none⟩,
    ⟨(some 21), .mksl 3 1 8 [.int .i64 0], [.tmp 20, .tmp 20], none⟩,
    ⟨(some 6), .mov, [.tmp 21], none⟩] false)
  (.seq (.seq (.ops [
    ⟨(some 22), .mov, [.tmp 6], none⟩,
    ⟨(some 23), .len, [.tmp 22], none⟩,
    ⟨(some 24), .mov, [.const (.int .i64 0)], none⟩] false)
  (.block 0
    (.loop
      (.seq (.ops [
        ⟨(some 25), .cmp .lss, [.tmp 24, .tmp 23], none⟩] false)
      (.seq (.cond (.tmp 25)
        .skip
        (.exit 0))
      (.seq (.block 1
        (.seq (.ops [
          ⟨(some 26), .mov, [.tmp 24], none⟩,
          ⟨(some 7), .mov, [.tmp 26], none⟩] false)
        (.seq (.ops [
          ⟨(some 27), .mov, [.tmp 6], none⟩,
          ⟨(some 28), .mov, [.tmp 7], none⟩,
          ⟨(some 29), .mov, [.tmp 0], none⟩,
          ⟨(some 30), .mov, [.tmp 1], none⟩,
          ⟨(some 31), .bin .quo .i64 false, [.tmp 29, .tmp 30], none⟩,
          ⟨(some 32), .idx 1, [.tmp 27, .tmp 28], none⟩,
          ⟨none, .store 1, [.tmp 32, .tmp 31], none⟩] false)
        (.seq (.ops [
          ⟨(some 33), .mov, [.tmp 7], none⟩,
          ⟨(some 34), .mov, [.tmp 0], none⟩,
          ⟨(some 35), .mov, [.tmp 1], none⟩,
          ⟨(some 36), .bin .rem .i64 false, [.tmp 34, .tmp 35], none⟩,
          ⟨(some 37), .cmp .lss, [.tmp 33, .tmp 36], none⟩] false)
        (.cond (.tmp 37)
          (.ops [
            ⟨(some 38), .mov, [.tmp 6], none⟩,
            ⟨(some 39), .mov, [.tmp 7], none⟩,
            ⟨(some 40), .idx 1, [.tmp 38, .tmp 39], none⟩,
            ⟨(some 41), .load 1 false, [.tmp 40], none⟩,
            ⟨(some 42), .bin .add .i64 false, [.tmp 41, .const (.int .i64 1)], none⟩,
            ⟨(some 43), .idx 1, [.tmp 38, .tmp 39], none⟩,
            ⟨none, .store 1, [.tmp 43, .tmp 42], none⟩] false)
          .skip)))))
      (.ops [
        ⟨(some 44), .bin .add .i64 false, [.tmp 24, .const (.int .i64 1)], none⟩,
        ⟨(some 24), .mov, [.tmp 44], none⟩] false)))))))
  (.seq (.ops [
    ⟨(some 45), .mov, [.tmp 6], none⟩,
    ⟨(some 4), .mov, [.tmp 45], none⟩,
    ⟨(some 5), .mov, [.const (.int .i64 0)], none⟩] false)
  .ret))))))⟩
theorem evenLow : lowF Try.prog { owns := [(6, 3)] } Try.f14 = some evenIr := by kernel_rfl
def evenS : Spec := spec (Int × Int) (fun p => [I p.1, I p.2]) (fun _ => True) (fun p => evT p.1 p.2)
theorem evenV : fnV Try.prog evenIr evenS := by
  intro ⟨(a : Int), (n : Int)⟩ hx
  show vc _ _ _ _ ⟨argEnv 0 [I a, I n], [], 0⟩
  by_cases ha : a < 0 ∨ 1099511627776 < a
  · have he : evErr a n = 2 := if_pos ha
    repeat' ((conv => whnf); first | (refine ⟨fun h => ?_, fun h => ?_⟩ <;> try (exfalso; first | omega | exact absurd h (by decide) | exact h rfl)) | fail | fail)
    all_goals (refine ⟨[], rfl, trivial, ?_⟩; show leR _ (evT a n); unfold evT; rw [he]; exact ⟨rfl, rfl, trivial⟩)
  by_cases hn : n < 1 ∨ 64 < n
  · have he : evErr a n = 1 := by unfold evErr; rw [if_neg ha, if_pos hn]
    repeat' ((conv => whnf); first | (refine ⟨fun h => ?_, fun h => ?_⟩ <;> try (exfalso; first | omega | exact absurd h (by decide) | exact h rfl)) | fail | fail)
    all_goals (refine ⟨[], rfl, trivial, ?_⟩; show leR _ (evT a n); unfold evT; rw [he]; exact ⟨rfl, rfl, trivial⟩)
  have he : evErr a n = 0 := by unfold evErr; rw [if_neg ha, if_neg hn]
  have ed := Int.tdiv_eq_ediv_of_nonneg (b := n) (show 0 ≤ a by omega)
  have em := Int.tmod_eq_emod_of_nonneg (b := n) (show 0 ≤ a by omega)
  have d0 := Int.ediv_nonneg (show 0 ≤ a by omega) (show 0 ≤ n by omega)
  have d1 := Int.ediv_le_self n (show 0 ≤ a by omega)
  repeat' ((conv => whnf); first | (refine ⟨fun h => ?_, fun h => ?_⟩ <;> try (exfalso; first | omega | exact absurd h (by decide) | exact h rfl)) | refine ⟨⟨by omega, by omega⟩, ?_⟩ | fail | fail)
  refine ⟨Nat × Int × (List (List CV)), fun xq => ⟨[(0, I a), (1, I n), (6, .osl 0), (23, I xq.2.1), (24, I xq.1)], [(0, .row 3 1 xq.2.2)], 1⟩, fun xq => xq.1 ≤ n.toNat ∧ xq.2.1 = n ∧ xq.2.2 = (fillE a n n.toNat xq.1).map e1, fun xq => n.toNat - xq.1, ⟨(0, _, _), ?_, [], ⟨⟨rfl, rfl⟩, ⟨⟨rfl, rfl⟩, ⟨⟨rfl, rfl⟩, ⟨⟨rfl, rfl⟩, ⟨⟨rfl, rfl⟩, trivial⟩⟩⟩⟩⟩, ⟨⟨rfl, rfl, rfl⟩, trivial⟩, rfl, rfl, rfl⟩, ?_⟩
  · (try dsimp only); exact ⟨Nat.zero_le _, by rw [List.length_replicate]; exact Int.toNat_of_nonneg (by omega), by rw [fillE_start, List.map_replicate]⟩
  rintro ⟨k, m, es⟩ hk
  obtain ⟨hk, hm, rfl⟩ : k ≤ n.toNat ∧ m = n ∧ es = (fillE a n n.toNat k).map e1 := hk
  (try dsimp only)
  have hl : ((fillE a n n.toNat k).map e1).length = n.toNat := by rw [List.length_map, fillE_len hk]
  by_cases hkn : (k : Int) < n
  · have g0 : ((fillE a n n.toNat k).map e1)[(k : Int).toNat]? = some [.int .i64 0] := get_e1 (by rw [Int.toNat_natCast]; exact fillE_get a n (by omega))
    have g1 : (((fillE a n n.toNat k).map e1).set (k : Int).toNat [.int .i64 (a / n)])[(k : Int).toNat]? = some [.int .i64 (a / n)] := List.getElem?_set_self (by rw [hl, Int.toNat_natCast]; omega)
    have g2 : ∀ x : Int, x = evI a n k → ((fillE a n n.toNat k).map e1).set (k : Int).toNat [.int .i64 x] = (fillE a n n.toNat (k + 1)).map e1 := fun x hx => by rw [map_set1, Int.toNat_natCast, fillE_set (by omega) x hx]
    by_cases hm' : (k : Int) < a % n
    · have hv : a / n + 1 = evI a n k := by unfold evI; rw [if_pos hm']
      repeat' ((conv => whnf); first | (refine ⟨fun h => ?_, fun h => ?_⟩ <;> try (exfalso; first | omega | exact absurd h (by decide) | exact h rfl)) | (refine ⟨⟨by omega, by omega, by omega⟩, ?_⟩; rw [ed]) | (refine ⟨by omega, ?_⟩; rw [em]) | refine get_at g0 ?_ | refine get_at g1 ?_ | (refine ⟨(k + 1, _, _), ⟨?_, by (try dsimp only); omega⟩, [], ⟨⟨rfl, rfl⟩, ⟨⟨rfl, rfl⟩, ⟨⟨rfl, rfl⟩, ⟨⟨rfl, rfl⟩, ⟨⟨rfl, rfl⟩, trivial⟩⟩⟩⟩⟩, ⟨⟨rfl, rfl, rfl⟩, trivial⟩, rfl, rfl, rfl⟩; (try dsimp only); exact ⟨by omega, hm, by rw [List.set_set]; exact g2 _ hv⟩) | refine ⟨⟨by omega, by omega⟩, ?_⟩ | refine ⟨⟨by omega, by (rw [List.length_set]; omega)⟩, ?_⟩ | fail)
    · have hv : a / n = evI a n k := by unfold evI; rw [if_neg hm', Int.add_zero]
      repeat' ((conv => whnf); first | (refine ⟨fun h => ?_, fun h => ?_⟩ <;> try (exfalso; first | omega | exact absurd h (by decide) | exact h rfl)) | (refine ⟨⟨by omega, by omega, by omega⟩, ?_⟩; rw [ed]) | (refine ⟨by omega, ?_⟩; rw [em]) | refine get_at g0 ?_ | refine get_at g1 ?_ | (refine ⟨(k + 1, _, _), ⟨?_, by (try dsimp only); omega⟩, [], ⟨⟨rfl, rfl⟩, ⟨⟨rfl, rfl⟩, ⟨⟨rfl, rfl⟩, ⟨⟨rfl, rfl⟩, ⟨⟨rfl, rfl⟩, trivial⟩⟩⟩⟩⟩, ⟨⟨rfl, rfl, rfl⟩, trivial⟩, rfl, rfl, rfl⟩; (try dsimp only); exact ⟨by omega, hm, g2 _ hv⟩) | refine ⟨⟨by omega, by omega⟩, ?_⟩ | refine ⟨⟨by omega, by (rw [List.length_set]; omega)⟩, ?_⟩ | fail)
  · have hkk : k = n.toNat := by omega
    subst hkk
    repeat' ((conv => whnf); first | (refine ⟨fun h => ?_, fun h => ?_⟩ <;> try (exfalso; first | omega | exact absurd h (by decide) | exact h rfl)) | fail | fail)
    all_goals (refine ⟨[], rfl, trivial, ?_⟩; show leR _ (evT a n); unfold evT; rw [he, if_pos rfl, ← fillE_end]; exact ⟨rfl, rfl, trivial⟩)
theorem even_h : Holds Try.prog 14 evenS := holds_of mix Try.func14 evenLow (fun _ => rfl) evenV

end Go.Proofs.Ytepacknnggnifaa
