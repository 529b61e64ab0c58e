/- The clock: Next. -/
import Derived.Test.YtmehmnlhnbeeeaaF2
import Derived.Test.YtmehmnlhnbeeeaaP2
namespace Go.Proofs.Ytmehmnlhnbeeeaa
open Go.RowKit

/-! skiarea/clock.opening -/
def openingIr : IFn := ⟨65, [.tmp 6, .tmp 7],
  (.seq (.ops [
    ⟨(some 6), .mov, [.const (.int .i64 0)], none⟩,
    ⟨(some 7), .mov, [.const (.bool false)], none⟩] false)
  (.seq (.ops [
    ⟨(some 8), .mov, [.const (.int .i64 0)], none⟩,
    ⟨(some 9), .mov, [.const (.bool false)], none⟩] false)
  (.seq (.seq (.ops [
    ⟨(some 15), .mov, [.tmp 0], none⟩,
    ⟨(some 16), .len, [.tmp 15], none⟩,
    ⟨(some 17), .mov, [.const (.int .i64 0)], none⟩] false)
  (.block 0
    (.loop
      (.seq (.ops [
        ⟨(some 18), .cmp .lss, [.tmp 17, .tmp 16], none⟩] false)
      (.seq (.cond (.tmp 18)
        .skip
        (.exit 0))
      (.seq (.block 1
        (.seq (.ops [
          ⟨(some 19), .idx 3, [.tmp 15, .tmp 17], none⟩,
          ⟨(some 20), .load 3 true, [.tmp 19], none⟩,
          ⟨(some 11), .alloc [.int .i64 0, .int .i64 0, .int .i64 0], [], none⟩,
          ⟨none, .store 3, [.tmp 11, .tmp 20], none⟩] false)
        (.seq (.ops [
          ⟨(some 21), .faddr 1, [.tmp 11], none⟩,
          ⟨(some 22), .load 1 false, [.tmp 21], none⟩,
          ⟨(some 23), .max, [.tmp 22, .const (.int .i64 0)], none⟩,
          ⟨(some 24), .faddr 2, [.tmp 11], none⟩,
          ⟨(some 25), .load 1 false, [.tmp 24], none⟩,
          ⟨(some 26), .min, [.tmp 25, .const (.int .i64 86400)], none⟩,
          ⟨(some 12), .mov, [.tmp 23], none⟩,
          ⟨(some 13), .mov, [.tmp 26], none⟩] true)
        (.seq (.seq (.ops [
          ⟨(some 27), .load 3 true, [.tmp 11], none⟩,
          ⟨(some 28), .mov, [.tmp 1], none⟩,
          ⟨(some 29), .call 37, [.tmp 27, .tmp 28], none⟩,
          ⟨(some 30), .not, [.tmp 29], none⟩,
          ⟨(some 31), .mov, [.tmp 30], none⟩,
          ⟨(some 32), .mov, [.tmp 12], (some (31, false))⟩,
          ⟨(some 33), .mov, [.tmp 13], (some (31, false))⟩,
          ⟨(some 34), .cmp .geq, [.tmp 32, .tmp 33], (some (31, false))⟩,
          ⟨(some 35), .pick, [.tmp 31, .const (.bool true), .tmp 34], none⟩] false)
        (.cond (.tmp 35)
          (.exit 1)
          .skip))
        (.seq (.ops [
          ⟨(some 36), .mov, [.tmp 1], none⟩,
          ⟨(some 37), .bin .mul .i64 false, [.tmp 36, .const (.int .i64 86400)], none⟩,
          ⟨(some 38), .mov, [.tmp 12], none⟩,
          ⟨(some 39), .bin .add .i64 false, [.tmp 37, .tmp 38], none⟩,
          ⟨(some 40), .mov, [.tmp 2], none⟩,
          ⟨(some 41), .max, [.tmp 39, .tmp 40], none⟩,
          ⟨(some 14), .mov, [.tmp 41], none⟩] false)
        (.seq (.ops [
          ⟨(some 42), .mov, [.tmp 14], none⟩,
          ⟨(some 43), .mov, [.tmp 1], none⟩,
          ⟨(some 44), .bin .mul .i64 false, [.tmp 43, .const (.int .i64 86400)], none⟩,
          ⟨(some 45), .mov, [.tmp 13], none⟩,
          ⟨(some 46), .bin .add .i64 false, [.tmp 44, .tmp 45], none⟩,
          ⟨(some 47), .cmp .lss, [.tmp 42, .tmp 46], none⟩,
          ⟨(some 48), .mov, [.tmp 47], none⟩,
          ⟨(some 49), .mov, [.tmp 14], (some (48, true))⟩,
          ⟨(some 50), .call 35, [.tmp 49], (some (48, true))⟩,
          ⟨(some 51), .pick, [.tmp 48, .tmp 50, .const (.bool false)], none⟩,
          ⟨(some 52), .mov, [.tmp 51], none⟩,
          ⟨(some 53), .mov, [.tmp 9], (some (52, true))⟩,
          ⟨(some 54), .not, [.tmp 53], (some (52, true))⟩,
          ⟨(some 55), .mov, [.tmp 54], (some (52, true))⟩,
          ⟨(some 56), .mov, [.tmp 14], (some (55, false))⟩,
          ⟨(some 57), .mov, [.tmp 8], (some (55, false))⟩,
          ⟨(some 58), .cmp .lss, [.tmp 56, .tmp 57], (some (55, false))⟩,
          ⟨(some 59), .pick, [.tmp 55, .const (.bool true), .tmp 58], (some (52, true))⟩,
          ⟨(some 60), .pick, [.tmp 52, .tmp 59, .const (.bool false)], none⟩] false)
        (.cond (.tmp 60)
          (.ops [
            ⟨(some 61), .mov, [.tmp 14], none⟩,
            ⟨(some 8), .mov, [.tmp 61], none⟩,
            ⟨(some 9), .mov, [.const (.bool true)], none⟩] false)
          .skip)))))))
      (.ops [
        ⟨(some 62), .bin .add .i64 false, [.tmp 17, .const (.int .i64 1)], none⟩,
        ⟨(some 17), .mov, [.tmp 62], none⟩] false)))))))
  (.seq (.ops [
    ⟨(some 63), .mov, [.tmp 8], none⟩,
    ⟨(some 64), .mov, [.tmp 9], none⟩,
    ⟨(some 6), .mov, [.tmp 63], none⟩,
    ⟨(some 7), .mov, [.tmp 64], none⟩] false)
  .ret))))⟩
theorem openingLow : lowF Try.prog {} Try.f39 = some openingIr := by kernel_rfl
def openingS : Spec := spec (List Hours × Int × Int) (fun p => [L 3 (p.1.map encH), I p.2.1, I p.2.2]) (fun p => p.1.length ≤ 1000000 ∧ (0 ≤ p.2.1 ∧ p.2.1 ≤ 1000) ∧ isT p.2.2 ∧ p.2.2 / 86400 ≤ p.2.1) (fun p => .tup [I (openR p.1 p.2.1 p.2.2).1, B (openR p.1 p.2.1 p.2.2).2])
theorem openingV : fnV Try.prog openingIr openingS := by
  intro ⟨(l : List Hours), (d : Int), (t : Int)⟩ hx
  obtain ⟨hlen, ⟨hd, hd2⟩, ht, ht2⟩ : l.length ≤ 1000000 ∧ (0 ≤ d ∧ d ≤ 1000) ∧ isT t ∧ t / 86400 ≤ d := hx
  have g1 := ht.1
  have g2 := ht.2
  show vc _ _ _ ⟨argEnv 0 [L 3 (l.map encH), I d, I t], [], 0⟩
  have hl : (l.map encH).length = l.length := List.length_map ..
  conv => whnf
  refine ⟨Nat × Int × Bool, fun xq => ⟨[(1, I d), (2, I t), (8, I xq.2.1), (9, B xq.2.2), (15, L 3 (l.map encH)), (16, I (l.map encH).length), (17, I xq.1)], [], 0⟩, fun xq => xq.1 ≤ l.length ∧ Found (l.take xq.1) d t xq.2.1 xq.2.2, fun xq => l.length - xq.1, ⟨(0, _, _), ?_, [], ⟨⟨rfl, rfl⟩, ⟨⟨rfl, rfl⟩, ⟨⟨rfl, rfl⟩, ⟨⟨rfl, rfl⟩, ⟨⟨rfl, rfl⟩, ⟨⟨rfl, rfl⟩, ⟨⟨rfl, rfl⟩, trivial⟩⟩⟩⟩⟩⟩⟩, trivial, rfl, rfl⟩, ?_⟩
  · (try dsimp only); exact ⟨Nat.zero_le _, Found.start d t⟩
  rintro ⟨k, u, ok⟩ hk
  obtain ⟨hk, hf⟩ : k ≤ l.length ∧ Found (l.take k) d t u ok := hk
  (try dsimp only)
  by_cases hkl : k < l.length
  · obtain ⟨x, hx⟩ := getElem_some hkl
    cases ok with
    | true =>
      by_cases hon : onF x.days (d % 7)
      · by_cases hT : isT (max (d * 86400 + max x.frm 0) t : Int)
        · repeat' ((conv => whnf); first | (refine ⟨(k + 1, (max (d * 86400 + max x.frm 0) t : Int), true), ⟨?_, by (try dsimp only); omega⟩, [], ⟨⟨rfl, rfl⟩, ⟨⟨rfl, rfl⟩, ⟨⟨rfl, rfl⟩, ⟨⟨rfl, rfl⟩, ⟨⟨rfl, rfl⟩, ⟨⟨rfl, rfl⟩, ⟨⟨rfl, rfl⟩, trivial⟩⟩⟩⟩⟩⟩⟩, trivial, rfl, rfl⟩; (try dsimp only); exact ⟨by omega, (by rw [take_snoc _ _ _ hx]; exact hf.better (cand_in ht2 hon (by unfold candF; omega) hT) (fun v a b c e => cand_le a b e) (.inr (by first | omega | (unfold candF; omega))))⟩) | (refine ⟨(k + 1, u, true), ⟨?_, by (try dsimp only); omega⟩, [], ⟨⟨rfl, rfl⟩, ⟨⟨rfl, rfl⟩, ⟨⟨rfl, rfl⟩, ⟨⟨rfl, rfl⟩, ⟨⟨rfl, rfl⟩, ⟨⟨rfl, rfl⟩, ⟨⟨rfl, rfl⟩, trivial⟩⟩⟩⟩⟩⟩⟩, trivial, rfl, rfl⟩; (try dsimp only); exact ⟨by omega, (by rw [take_snoc _ _ _ hx]; exact hf.worse (u := candF x d t) (fun v a b c e => cand_le a b e) (by unfold candF; omega))⟩) | (refine ⟨(k + 1, u, true), ⟨?_, by (try dsimp only); omega⟩, [], ⟨⟨rfl, rfl⟩, ⟨⟨rfl, rfl⟩, ⟨⟨rfl, rfl⟩, ⟨⟨rfl, rfl⟩, ⟨⟨rfl, rfl⟩, ⟨⟨rfl, rfl⟩, ⟨⟨rfl, rfl⟩, trivial⟩⟩⟩⟩⟩⟩⟩, trivial, rfl, rfl⟩; (try dsimp only); exact ⟨by omega, (by rw [take_snoc _ _ _ hx]; exact hf.skip fun v a b c e => by obtain ⟨n1, n2, n3, n4⟩ := cand_none a b c e; first | exact hon n1 | exact hT n3 | (unfold candF at n2; omega) | omega)⟩) | (refine ⟨fun h => ?_, fun h => ?_⟩ <;> try (exfalso; first | omega | exact absurd h (by decide) | exact h rfl)) | (refine ⟨by omega, fun r hrr => ?_⟩; obtain rfl := get_row hrr hx) | (refine ⟨_, on_h, (x, d), hd, leVs_of_eq rfl, .inl rfl, rfl, ?_⟩; show norm (B (decide (onF x.days (d % 7)))) _; rw [decide_eq_true hon]) | (refine ⟨_, isTime_h, (max (d * 86400 + max x.frm 0) t : Int), trivial, leVs_of_eq rfl, .inl rfl, rfl, ?_⟩; show norm (B (decide (isT (max (d * 86400 + max x.frm 0) t : Int)))) _; rw [decide_eq_true hT]) | refine ⟨⟨by omega, by omega⟩, ?_⟩ | fail)
        · repeat' ((conv => whnf); first | (refine ⟨(k + 1, u, true), ⟨?_, by (try dsimp only); omega⟩, [], ⟨⟨rfl, rfl⟩, ⟨⟨rfl, rfl⟩, ⟨⟨rfl, rfl⟩, ⟨⟨rfl, rfl⟩, ⟨⟨rfl, rfl⟩, ⟨⟨rfl, rfl⟩, ⟨⟨rfl, rfl⟩, trivial⟩⟩⟩⟩⟩⟩⟩, trivial, rfl, rfl⟩; (try dsimp only); exact ⟨by omega, (by rw [take_snoc _ _ _ hx]; exact hf.worse (u := candF x d t) (fun v a b c e => cand_le a b e) (by unfold candF; omega))⟩) | (refine ⟨(k + 1, u, true), ⟨?_, by (try dsimp only); omega⟩, [], ⟨⟨rfl, rfl⟩, ⟨⟨rfl, rfl⟩, ⟨⟨rfl, rfl⟩, ⟨⟨rfl, rfl⟩, ⟨⟨rfl, rfl⟩, ⟨⟨rfl, rfl⟩, ⟨⟨rfl, rfl⟩, trivial⟩⟩⟩⟩⟩⟩⟩, trivial, rfl, rfl⟩; (try dsimp only); exact ⟨by omega, (by rw [take_snoc _ _ _ hx]; exact hf.skip fun v a b c e => by obtain ⟨n1, n2, n3, n4⟩ := cand_none a b c e; first | exact hon n1 | exact hT n3 | (unfold candF at n2; omega) | omega)⟩) | (refine ⟨fun h => ?_, fun h => ?_⟩ <;> try (exfalso; first | omega | exact absurd h (by decide) | exact h rfl)) | (refine ⟨by omega, fun r hrr => ?_⟩; obtain rfl := get_row hrr hx) | (refine ⟨_, on_h, (x, d), hd, leVs_of_eq rfl, .inl rfl, rfl, ?_⟩; show norm (B (decide (onF x.days (d % 7)))) _; rw [decide_eq_true hon]) | (refine ⟨_, isTime_h, (max (d * 86400 + max x.frm 0) t : Int), trivial, leVs_of_eq rfl, .inl rfl, rfl, ?_⟩; show norm (B (decide (isT (max (d * 86400 + max x.frm 0) t : Int)))) _; rw [decide_eq_false hT]) | refine ⟨⟨by omega, by omega⟩, ?_⟩ | fail)
      · repeat' ((conv => whnf); first | (refine ⟨(k + 1, u, true), ⟨?_, by (try dsimp only); omega⟩, [], ⟨⟨rfl, rfl⟩, ⟨⟨rfl, rfl⟩, ⟨⟨rfl, rfl⟩, ⟨⟨rfl, rfl⟩, ⟨⟨rfl, rfl⟩, ⟨⟨rfl, rfl⟩, ⟨⟨rfl, rfl⟩, trivial⟩⟩⟩⟩⟩⟩⟩, trivial, rfl, rfl⟩; (try dsimp only); exact ⟨by omega, (by rw [take_snoc _ _ _ hx]; exact hf.worse (u := candF x d t) (fun v a b c e => cand_le a b e) (by unfold candF; omega))⟩) | (refine ⟨(k + 1, u, true), ⟨?_, by (try dsimp only); omega⟩, [], ⟨⟨rfl, rfl⟩, ⟨⟨rfl, rfl⟩, ⟨⟨rfl, rfl⟩, ⟨⟨rfl, rfl⟩, ⟨⟨rfl, rfl⟩, ⟨⟨rfl, rfl⟩, ⟨⟨rfl, rfl⟩, trivial⟩⟩⟩⟩⟩⟩⟩, trivial, rfl, rfl⟩; (try dsimp only); exact ⟨by omega, (by rw [take_snoc _ _ _ hx]; exact hf.skip fun v a b c e => by obtain ⟨n1, n2, n3, n4⟩ := cand_none a b c e; first | exact hon n1 | exact hT n3 | (unfold candF at n2; omega) | omega)⟩) | (refine ⟨fun h => ?_, fun h => ?_⟩ <;> try (exfalso; first | omega | exact absurd h (by decide) | exact h rfl)) | (refine ⟨by omega, fun r hrr => ?_⟩; obtain rfl := get_row hrr hx) | (refine ⟨_, on_h, (x, d), hd, leVs_of_eq rfl, .inl rfl, rfl, ?_⟩; show norm (B (decide (onF x.days (d % 7)))) _; rw [decide_eq_false hon]) | (refine ⟨_, isTime_h, (max (d * 86400 + max x.frm 0) t : Int), trivial, leVs_of_eq rfl, .inl rfl, rfl, ?_⟩; show norm (B (decide (isT (max (d * 86400 + max x.frm 0) t : Int)))) _; rw [decide_eq_true hT]) | refine ⟨⟨by omega, by omega⟩, ?_⟩ | fail)
    | false =>
      by_cases hon : onF x.days (d % 7)
      · by_cases hT : isT (max (d * 86400 + max x.frm 0) t : Int)
        · repeat' ((conv => whnf); first | (refine ⟨(k + 1, (max (d * 86400 + max x.frm 0) t : Int), true), ⟨?_, by (try dsimp only); omega⟩, [], ⟨⟨rfl, rfl⟩, ⟨⟨rfl, rfl⟩, ⟨⟨rfl, rfl⟩, ⟨⟨rfl, rfl⟩, ⟨⟨rfl, rfl⟩, ⟨⟨rfl, rfl⟩, ⟨⟨rfl, rfl⟩, trivial⟩⟩⟩⟩⟩⟩⟩, trivial, rfl, rfl⟩; (try dsimp only); exact ⟨by omega, (by rw [take_snoc _ _ _ hx]; exact hf.better (cand_in ht2 hon (by unfold candF; omega) hT) (fun v a b c e => cand_le a b e) (.inl rfl))⟩) | (refine ⟨(k + 1, u, false), ⟨?_, by (try dsimp only); omega⟩, [], ⟨⟨rfl, rfl⟩, ⟨⟨rfl, rfl⟩, ⟨⟨rfl, rfl⟩, ⟨⟨rfl, rfl⟩, ⟨⟨rfl, rfl⟩, ⟨⟨rfl, rfl⟩, ⟨⟨rfl, rfl⟩, trivial⟩⟩⟩⟩⟩⟩⟩, trivial, rfl, rfl⟩; (try dsimp only); exact ⟨by omega, (by rw [take_snoc _ _ _ hx]; exact hf.skip fun v a b c e => by obtain ⟨n1, n2, n3, n4⟩ := cand_none a b c e; first | exact hon n1 | exact hT n3 | (unfold candF at n2; omega) | omega)⟩) | (refine ⟨fun h => ?_, fun h => ?_⟩ <;> try (exfalso; first | omega | exact absurd h (by decide) | exact h rfl)) | (refine ⟨by omega, fun r hrr => ?_⟩; obtain rfl := get_row hrr hx) | (refine ⟨_, on_h, (x, d), hd, leVs_of_eq rfl, .inl rfl, rfl, ?_⟩; show norm (B (decide (onF x.days (d % 7)))) _; rw [decide_eq_true hon]) | (refine ⟨_, isTime_h, (max (d * 86400 + max x.frm 0) t : Int), trivial, leVs_of_eq rfl, .inl rfl, rfl, ?_⟩; show norm (B (decide (isT (max (d * 86400 + max x.frm 0) t : Int)))) _; rw [decide_eq_true hT]) | refine ⟨⟨by omega, by omega⟩, ?_⟩ | fail)
        · repeat' ((conv => whnf); first | (refine ⟨(k + 1, u, false), ⟨?_, by (try dsimp only); omega⟩, [], ⟨⟨rfl, rfl⟩, ⟨⟨rfl, rfl⟩, ⟨⟨rfl, rfl⟩, ⟨⟨rfl, rfl⟩, ⟨⟨rfl, rfl⟩, ⟨⟨rfl, rfl⟩, ⟨⟨rfl, rfl⟩, trivial⟩⟩⟩⟩⟩⟩⟩, trivial, rfl, rfl⟩; (try dsimp only); exact ⟨by omega, (by rw [take_snoc _ _ _ hx]; exact hf.skip fun v a b c e => by obtain ⟨n1, n2, n3, n4⟩ := cand_none a b c e; first | exact hon n1 | exact hT n3 | (unfold candF at n2; omega) | omega)⟩) | (refine ⟨fun h => ?_, fun h => ?_⟩ <;> try (exfalso; first | omega | exact absurd h (by decide) | exact h rfl)) | (refine ⟨by omega, fun r hrr => ?_⟩; obtain rfl := get_row hrr hx) | (refine ⟨_, on_h, (x, d), hd, leVs_of_eq rfl, .inl rfl, rfl, ?_⟩; show norm (B (decide (onF x.days (d % 7)))) _; rw [decide_eq_true hon]) | (refine ⟨_, isTime_h, (max (d * 86400 + max x.frm 0) t : Int), trivial, leVs_of_eq rfl, .inl rfl, rfl, ?_⟩; show norm (B (decide (isT (max (d * 86400 + max x.frm 0) t : Int)))) _; rw [decide_eq_false hT]) | refine ⟨⟨by omega, by omega⟩, ?_⟩ | fail)
      · repeat' ((conv => whnf); first | (refine ⟨(k + 1, u, false), ⟨?_, by (try dsimp only); omega⟩, [], ⟨⟨rfl, rfl⟩, ⟨⟨rfl, rfl⟩, ⟨⟨rfl, rfl⟩, ⟨⟨rfl, rfl⟩, ⟨⟨rfl, rfl⟩, ⟨⟨rfl, rfl⟩, ⟨⟨rfl, rfl⟩, trivial⟩⟩⟩⟩⟩⟩⟩, trivial, rfl, rfl⟩; (try dsimp only); exact ⟨by omega, (by rw [take_snoc _ _ _ hx]; exact hf.skip fun v a b c e => by obtain ⟨n1, n2, n3, n4⟩ := cand_none a b c e; first | exact hon n1 | exact hT n3 | (unfold candF at n2; omega) | omega)⟩) | (refine ⟨fun h => ?_, fun h => ?_⟩ <;> try (exfalso; first | omega | exact absurd h (by decide) | exact h rfl)) | (refine ⟨by omega, fun r hrr => ?_⟩; obtain rfl := get_row hrr hx) | (refine ⟨_, on_h, (x, d), hd, leVs_of_eq rfl, .inl rfl, rfl, ?_⟩; show norm (B (decide (onF x.days (d % 7)))) _; rw [decide_eq_false hon]) | (refine ⟨_, isTime_h, (max (d * 86400 + max x.frm 0) t : Int), trivial, leVs_of_eq rfl, .inl rfl, rfl, ?_⟩; show norm (B (decide (isT (max (d * 86400 + max x.frm 0) t : Int)))) _; rw [decide_eq_true hT]) | refine ⟨⟨by omega, by omega⟩, ?_⟩ | fail)
  · rw [take_end hkl] at hf
    have e := hf.eq
    repeat' ((conv => whnf); first | (refine ⟨fun h => ?_, fun h => ?_⟩ <;> try (exfalso; first | omega | exact absurd h (by decide) | exact h rfl)) | fail)
    conv => whnf
    refine ⟨[], rfl, trivial, ?_⟩
    show leVs [I u, B ok] [I (openR l d t).1, B (openR l d t).2]
    rw [e]
    exact leVs_of_eq rfl
theorem opening_h : Holds Try.prog 39 openingS := holds_of mix Try.func39 openingLow (fun _ => rfl) openingV

/-! skiarea/clock.Next -/
def nextIr : IFn := ⟨36, [.tmp 4, .tmp 5],
  (.seq (.ops [
    ⟨(some 4), .mov, [.const (.int .i64 0)], none⟩,
    ⟨(some 5), .mov, [.const (.bool false)], none⟩] false)
  (.seq (.ops [
    ⟨(some 10), .mov, [.tmp 1], none⟩,
    ⟨(some 11), .max, [.tmp 10, .const (.int .i64 0)], none⟩,
    ⟨(some 1), .mov, [.tmp 11], none⟩] false)
  (.seq (.seq (.ops [
    ⟨(some 12), .mov, [.tmp 1], none⟩,
    ⟨(some 13), .call 35, [.tmp 12], none⟩,
    ⟨(some 14), .not, [.tmp 13], none⟩] false)
  (.cond (.tmp 14)
    (.seq (.ops [
      ⟨(some 4), .mov, [.const (.int .i64 0)], none⟩,
      ⟨(some 5), .mov, [.const (.bool false)], none⟩] false)
    .ret)
    .skip))
  (.seq (.ops [
    ⟨(some 15), .mov, [.tmp 1], none⟩,
    ⟨(some 16), .call 12, [.tmp 15], none⟩,
    ⟨(some 6), .mov, [.tmp 16], none⟩] false)
  (.seq (.seq (.ops [
    ⟨(some 17), .call 12, [.const (.int .i64 20000000)], none⟩,
    ⟨(some 18), .mov, [.tmp 6], none⟩,
    ⟨(some 19), .bin .sub .i64 false, [.tmp 17, .tmp 18], none⟩,
    ⟨(some 20), .bin .add .i64 false, [.tmp 19, .const (.int .i64 1)], none⟩,
    ⟨(some 21), .mov, [.const (.int .i64 0)], none⟩] false)
  (.block 0
    (.loop
      (.seq (.ops [
        ⟨(some 22), .cmp .lss, [.tmp 21, .tmp 20], none⟩] false)
      (.seq (.cond (.tmp 22)
        .skip
        (.exit 0))
      (.seq (.block 1
        (.seq (.ops [
          ⟨(some 23), .mov, [.tmp 21], none⟩,
          ⟨(some 7), .mov, [.tmp 23], none⟩] false)
        (.seq (.ops [
          ⟨(some 25), .mov, [.tmp 0], none⟩,
          ⟨(some 26), .mov, [.tmp 6], none⟩,
          ⟨(some 27), .mov, [.tmp 7], none⟩,
          ⟨(some 28), .bin .add .i64 false, [.tmp 26, .tmp 27], none⟩,
          ⟨(some 29), .mov, [.tmp 1], none⟩,
          ⟨(some 30), .call 39, [.tmp 25, .tmp 28, .tmp 29], none⟩,
          ⟨(some 24), .mov, [.tmp 30], none⟩,
          ⟨(some 31), .extract 0, [.tmp 24], none⟩,
          ⟨(some 32), .extract 1, [.tmp 24], none⟩,
          ⟨(some 8), .mov, [.tmp 31], none⟩,
          ⟨(some 9), .mov, [.tmp 32], none⟩] false)
        (.seq (.ops [
          ⟨(some 33), .mov, [.tmp 9], none⟩] false)
        (.cond (.tmp 33)
          (.seq (.ops [
            ⟨(some 34), .mov, [.tmp 8], none⟩,
            ⟨(some 4), .mov, [.tmp 34], none⟩,
            ⟨(some 5), .mov, [.const (.bool true)], none⟩] false)
          .ret)
          .skip)))))
      (.ops [
        ⟨(some 35), .bin .add .i64 false, [.tmp 21, .const (.int .i64 1)], none⟩,
        ⟨(some 21), .mov, [.tmp 35], none⟩] false)))))))
  (.seq (.ops [
    ⟨(some 4), .mov, [.const (.int .i64 0)], none⟩,
    ⟨(some 5), .mov, [.const (.bool false)], none⟩] false)
  .ret))))))⟩
theorem nextLow : lowF Try.prog {} Try.f22 = some nextIr := by kernel_rfl
def nextS : Spec := spec (List Hours × Int) (fun p => [L 3 (p.1.map encH), I p.2]) (fun p => p.1.length ≤ 1000000) (fun p => .tup [I (nextR p.1 p.2).1, B (nextR p.1 p.2).2])
theorem nextV : fnV Try.prog nextIr nextS := by
  intro ⟨(l : List Hours), (t0 : Int)⟩ hx
  replace hx : l.length ≤ 1000000 := hx
  show vc _ _ _ ⟨argEnv 0 [L 3 (l.map encH), I t0], [], 0⟩
  have hmx : nextR l (max t0 0) = nextR l t0 := next_max
  by_cases ht : isT (max t0 0)
  · have g1 := ht.1
    have g2 := ht.2
    have e0 : dayF 20000000 = 231 := by decide
    have e1 : dayF (max t0 0) = max t0 0 / 86400 := day_eq ht
    repeat' ((conv => whnf); first | (refine ⟨fun h => ?_, fun h => ?_⟩ <;> try (exfalso; first | omega | exact absurd h (by decide) | exact h rfl)) | (refine ⟨_, isTime_h, (max t0 0 : Int), trivial, leVs_of_eq rfl, .inl rfl, rfl, ?_⟩; show norm (B (decide (isT (max t0 0)))) _; rw [decide_eq_true ht]) | (refine ⟨_, day_h, (20000000 : Int), trivial, leVs_of_eq rfl, .inl rfl, rfl, ?_⟩; show norm (I (dayF 20000000)) _; rw [e0]) | (refine ⟨_, day_h, (max t0 0 : Int), trivial, leVs_of_eq rfl, .inl rfl, rfl, ?_⟩; show norm (I (dayF (max t0 0))) _; rw [e1]) | refine ⟨⟨by omega, by omega⟩, ?_⟩ | fail)
    conv => whnf
    refine ⟨Nat, fun xq => ⟨[(0, L 3 (l.map encH)), (1, I (max t0 0)), (6, I (max t0 0 / 86400)), (20, I (231 - max t0 0 / 86400 + 1)), (21, I xq)], [], 0⟩, fun xq => (xq : Int) ≤ 231 - max t0 0 / 86400 + 1 ∧ Before l (max t0 0) (max t0 0 / 86400 + xq), fun xq => (231 - max t0 0 / 86400 + 1).toNat - xq, ⟨0, ?_, [], ⟨⟨rfl, rfl⟩, ⟨⟨rfl, rfl⟩, ⟨⟨rfl, rfl⟩, ⟨⟨rfl, rfl⟩, ⟨⟨rfl, rfl⟩, trivial⟩⟩⟩⟩⟩, trivial, rfl, rfl⟩, ?_⟩
    · (try dsimp only); exact ⟨by omega, by simpa using before_start⟩
    rintro k hk
    obtain ⟨hk, hb⟩ : (k : Int) ≤ 231 - max t0 0 / 86400 + 1 ∧ Before l (max t0 0) (max t0 0 / 86400 + k) := hk
    (try dsimp only)
    by_cases hkl : (k : Int) < 231 - max t0 0 / 86400 + 1
    · obtain ⟨u, ok, hf⟩ := found_ex l (max t0 0 / 86400 + k) (max t0 0)
      have p1 : 0 ≤ max t0 0 / 86400 + (k : Int) ∧ max t0 0 / 86400 + (k : Int) ≤ 1000 := by omega
      have p2 : max t0 0 / 86400 ≤ max t0 0 / 86400 + (k : Int) := by omega
      have e : SV.tup [I (openR l (max t0 0 / 86400 + (k : Int)) (max t0 0)).1, B (openR l (max t0 0 / 86400 + (k : Int)) (max t0 0)).2] = .tup [I u, B ok] := by rw [hf.eq]
      cases ok with
      | true =>
        have en := hb.hit hf
        repeat' ((conv => whnf); first | (refine ⟨fun h => ?_, fun h => ?_⟩ <;> try (exfalso; first | omega | exact absurd h (by decide) | exact h rfl)) | (refine ⟨_, opening_h, (l, (max t0 0 / 86400 + (k : Int) : Int), (max t0 0 : Int)), ⟨hx, p1, ht, p2⟩, leVs_of_eq rfl, .inl rfl, rfl, ?_⟩; show norm (.tup [I (openR l (max t0 0 / 86400 + k) (max t0 0)).1, B (openR l (max t0 0 / 86400 + k) (max t0 0)).2]) _; rw [e]) | refine ⟨⟨by omega, by omega⟩, ?_⟩ | fail)
        conv => whnf
        refine ⟨[], rfl, trivial, ?_⟩
        show leVs [I u, B true] [I (nextR l t0).1, B (nextR l t0).2]
        rw [← hmx, en]
        exact leVs_of_eq rfl
      | false =>
        have en := hb.miss hf
        repeat' ((conv => whnf); first | (refine ⟨k + 1, ⟨?_, by (try dsimp only); omega⟩, [], ⟨⟨rfl, rfl⟩, ⟨⟨rfl, rfl⟩, ⟨⟨rfl, rfl⟩, ⟨⟨rfl, rfl⟩, ⟨⟨rfl, rfl⟩, trivial⟩⟩⟩⟩⟩, trivial, rfl, rfl⟩; (try dsimp only); exact ⟨by omega, by rw [show max t0 0 / 86400 + ((k + 1 : Nat) : Int) = max t0 0 / 86400 + k + 1 by omega]; exact en⟩) | (refine ⟨fun h => ?_, fun h => ?_⟩ <;> try (exfalso; first | omega | exact absurd h (by decide) | exact h rfl)) | (refine ⟨_, opening_h, (l, (max t0 0 / 86400 + (k : Int) : Int), (max t0 0 : Int)), ⟨hx, p1, ht, p2⟩, leVs_of_eq rfl, .inl rfl, rfl, ?_⟩; show norm (.tup [I (openR l (max t0 0 / 86400 + k) (max t0 0)).1, B (openR l (max t0 0 / 86400 + k) (max t0 0)).2]) _; rw [e]) | refine ⟨⟨by omega, by omega⟩, ?_⟩ | fail)
    · rw [show max t0 0 / 86400 + (k : Int) = 232 by omega] at hb
      repeat' ((conv => whnf); first | (refine ⟨fun h => ?_, fun h => ?_⟩ <;> try (exfalso; first | omega | exact absurd h (by decide) | exact h rfl)) | fail)
      conv => whnf
      refine ⟨[], rfl, trivial, ?_⟩
      show leVs [I 0, B false] [I (nextR l t0).1, B (nextR l t0).2]
      rw [← hmx, hb.all]
      exact leVs_of_eq rfl
  · have hlt : 20000000 < t0 := by unfold isT at ht; omega
    repeat' ((conv => whnf); first | (refine ⟨fun h => ?_, fun h => ?_⟩ <;> try (exfalso; first | omega | exact absurd h (by decide) | exact h rfl)) | (refine ⟨_, isTime_h, (max t0 0 : Int), trivial, leVs_of_eq rfl, .inl rfl, rfl, ?_⟩; show norm (B (decide (isT (max t0 0)))) _; rw [decide_eq_false ht]) | fail)
    conv => whnf
    refine ⟨[], rfl, trivial, ?_⟩
    show leVs [I 0, B false] [I (nextR l t0).1, B (nextR l t0).2]
    rw [next_late hlt]
    exact leVs_of_eq rfl
theorem next_h : Holds Try.prog 22 nextS := holds_of mix Try.func22 nextLow (fun _ => rfl) nextV

/-! skiarea/skiarearef02.Next -/
def rnextIr : IFn := ⟨68, [.tmp 4, .tmp 5],
  (.seq (.ops [
    ⟨(some 4), .mov, [.const (.int .i64 0)], none⟩,
    ⟨(some 5), .mov, [.const (.bool false)], none⟩] false)
  (.seq (.seq (.ops [
    ⟨(some 11), .mov, [.tmp 1], none⟩,
    ⟨(some 12), .cmp .gtr, [.tmp 11, .const (.int .i64 20000000)], none⟩] false)
  (.cond (.tmp 12)
    (.seq (.ops [
      ⟨(some 4), .mov, [.const (.int .i64 0)], none⟩,
      ⟨(some 5), .mov, [.const (.bool false)], none⟩] false)
    .ret)
    .skip))
  (.seq (.ops [
    ⟨(some 13), .mov, [.tmp 1], none⟩,
    ⟨(some 14), .max, [.tmp 13, .const (.int .i64 0)], none⟩,
    ⟨(some 1), .mov, [.tmp 14], none⟩] false)
  (.seq (.seq (.ops [
    ⟨(some 15), .mov, [.tmp 1], none⟩,
    ⟨(some 16), .call 13, [.tmp 15], none⟩,
    ⟨(some 6), .mov, [.tmp 16], none⟩] false)
  (.block 0
    (.loop
      (.seq (.seq (.ops [
        ⟨(some 17), .mov, [.tmp 6], none⟩,
        ⟨(some 18), .mov, [.tmp 1], none⟩,
        ⟨(some 19), .call 13, [.tmp 18], none⟩,
        ⟨(some 20), .bin .add .i64 false, [.tmp 19, .const (.int .i64 7)], none⟩,
        ⟨(some 21), .cmp .leq, [.tmp 17, .tmp 20], none⟩] false)
      (.cond (.tmp 21)
        .skip
        (.exit 0)))
      (.seq (.block 1
        (.seq (.ops [
          ⟨(some 7), .mov, [.const (.int .i64 0)], none⟩,
          ⟨(some 8), .mov, [.const (.bool false)], none⟩] false)
        (.seq (.seq (.ops [
          ⟨(some 9), .mov, [.const (.int .i64 0)], none⟩] false)
        (.block 2
          (.loop
            (.seq (.seq (.ops [
              ⟨(some 24), .mov, [.tmp 9], none⟩,
              ⟨(some 25), .mov, [.tmp 0], none⟩,
              ⟨(some 26), .len, [.tmp 25], none⟩,
              ⟨(some 27), .cmp .lss, [.tmp 24, .tmp 26], none⟩] false)
            (.cond (.tmp 27)
              .skip
              (.exit 2)))
            (.seq (.block 3
              (.seq (.ops [
                ⟨(some 30), .mov, [.tmp 1], none⟩,
                ⟨(some 31), .mov, [.tmp 6], none⟩,
                ⟨(some 32), .bin .mul .i64 false, [.tmp 31, .const (.int .i64 86400)], none⟩,
                ⟨(some 33), .mov, [.tmp 0], none⟩,
                ⟨(some 34), .mov, [.tmp 9], none⟩,
                ⟨(some 35), .idx 3, [.tmp 33, .tmp 34], none⟩,
                ⟨(some 36), .faddr 1, [.tmp 35], none⟩,
                ⟨(some 37), .load 1 false, [.tmp 36], none⟩,
                ⟨(some 38), .min, [.tmp 37, .const (.int .i64 86400)], none⟩,
                ⟨(some 39), .max, [.const (.int .i64 0), .tmp 38], none⟩,
                ⟨(some 40), .bin .add .i64 false, [.tmp 32, .tmp 39], none⟩,
                ⟨(some 41), .max, [.tmp 30, .tmp 40], none⟩,
                ⟨(some 10), .mov, [.tmp 41], none⟩] false)
              (.seq (.ops [
                ⟨(some 42), .mov, [.tmp 10], none⟩,
                ⟨(some 43), .mov, [.tmp 6], none⟩,
                ⟨(some 44), .bin .add .i64 false, [.tmp 43, .const (.int .i64 1)], none⟩,
                ⟨(some 45), .bin .mul .i64 false, [.tmp 44, .const (.int .i64 86400)], none⟩,
                ⟨(some 46), .cmp .lss, [.tmp 42, .tmp 45], none⟩,
                ⟨(some 47), .mov, [.tmp 46], none⟩,
                ⟨(some 48), .mov, [.tmp 0], (some (47, true))⟩,
                ⟨(some 49), .mov, [.tmp 9], (some (47, true))⟩,
                ⟨(some 50), .idx 3, [.tmp 48, .tmp 49], (some (47, true))⟩,
                ⟨(some 51), .load 3 true, [.tmp 50], (some (47, true))⟩,
                ⟨(some 52), .buildSl 42 3, [.tmp 51], (some (47, true))⟩,
                ⟨(some 53), .mov, [.tmp 10], (some (47, true))⟩,
                ⟨(some 54), .call 21, [.tmp 52, .tmp 53], (some (47, true))⟩,
                ⟨(some 55), .pick, [.tmp 47, .tmp 54, .const (.bool false)], none⟩,
                ⟨(some 56), .mov, [.tmp 55], none⟩,
                ⟨(some 57), .mov, [.tmp 8], (some (56, true))⟩,
                ⟨(some 58), .not, [.tmp 57], (some (56, true))⟩,
                ⟨(some 59), .mov, [.tmp 58], (some (56, true))⟩,
                ⟨(some 60), .mov, [.tmp 10], (some (59, false))⟩,
                ⟨(some 61), .mov, [.tmp 7], (some (59, false))⟩,
                ⟨(some 62), .cmp .lss, [.tmp 60, .tmp 61], (some (59, false))⟩,
                ⟨(some 63), .pick, [.tmp 59, .const (.bool true), .tmp 62], (some (56, true))⟩,
                ⟨(some 64), .pick, [.tmp 56, .tmp 63, .const (.bool false)], none⟩] false)
              (.cond (.tmp 64)
                (.ops [
                  ⟨(some 65), .mov, [.tmp 10], none⟩,
                  ⟨(some 7), .mov, [.tmp 65], none⟩,
                  ⟨(some 8), .mov, [.const (.bool true)], none⟩] false)
                .skip))))
            (.ops [
              ⟨(some 28), .mov, [.tmp 9], none⟩,
              ⟨(some 29), .bin .add .i64 false, [.tmp 28, .const (.int .i64 1)], none⟩,
              ⟨(some 9), .mov, [.tmp 29], none⟩] false))))))
        (.seq (.ops [
          ⟨(some 66), .mov, [.tmp 8], none⟩] false)
        (.cond (.tmp 66)
          (.seq (.ops [
            ⟨(some 67), .mov, [.tmp 7], none⟩,
            ⟨(some 4), .mov, [.tmp 67], none⟩,
            ⟨(some 5), .mov, [.const (.bool true)], none⟩] false)
          .ret)
          .skip)))))
      (.ops [
        ⟨(some 22), .mov, [.tmp 6], none⟩,
        ⟨(some 23), .bin .add .i64 false, [.tmp 22, .const (.int .i64 1)], none⟩,
        ⟨(some 6), .mov, [.tmp 23], none⟩] false))))))
  (.seq (.ops [
    ⟨(some 4), .mov, [.const (.int .i64 0)], none⟩,
    ⟨(some 5), .mov, [.const (.bool false)], none⟩] false)
  .ret)))))⟩
theorem rnextLow : lowF Try.prog {} Try.f23 = some rnextIr := by kernel_rfl
def rnextS : Spec := spec (List Hours × Int) (fun p => [L 3 (p.1.map encH), I p.2]) (fun p => p.1.length ≤ 1000000) (fun p => .tup [I (nextR p.1 p.2).1, B (nextR p.1 p.2).2])
theorem rnextV : fnV Try.prog rnextIr rnextS := by
  intro ⟨(l : List Hours), (t0 : Int)⟩ hx
  replace hx : l.length ≤ 1000000 := hx
  show vc _ _ _ ⟨argEnv 0 [L 3 (l.map encH), I t0], [], 0⟩
  have hl : (l.map encH).length = l.length := List.length_map ..
  conv => whnf
  refine ⟨fun hlt => ?_, fun hlt => ?_⟩
  · conv => whnf
    refine ⟨[], rfl, trivial, ?_⟩
    show leVs [I 0, B false] [I (nextR l t0).1, B (nextR l t0).2]
    rw [next_late hlt]
    exact leVs_of_eq rfl
  · have hmx : nextR l (max t0 0) = nextR l t0 := next_max
    have ht : isT (max t0 0) := ⟨by omega, by omega⟩
    conv => whnf
    generalize (max t0 0 : Int) = t at *
    have g1 := ht.1
    have g2 := ht.2
    repeat' ((conv => whnf); first | (refine ⟨_, rday_h, t, trivial, leVs_of_eq rfl, .inl rfl, rfl, ?_⟩; show norm (I (dayF t)) _; rw [day_eq ht]) | fail)
    conv => whnf
    refine ⟨Int, fun xq => ⟨[(0, L 3 (l.map encH)), (1, I t), (6, I xq)], [], 0⟩, fun xq => (t / 86400 ≤ xq ∧ xq ≤ t / 86400 + 8) ∧ Before l t xq, fun xq => (t / 86400 + 8 - xq).toNat, ⟨(t / 86400), ?_, [], ⟨⟨rfl, rfl⟩, ⟨⟨rfl, rfl⟩, ⟨⟨rfl, rfl⟩, trivial⟩⟩⟩, trivial, rfl, rfl⟩, ?_⟩
    · (try dsimp only); exact ⟨⟨by omega, by omega⟩, before_start⟩
    rintro d hk
    obtain ⟨⟨hd1, hd2⟩, hb⟩ : (t / 86400 ≤ d ∧ d ≤ t / 86400 + 8) ∧ Before l t d := hk
    (try dsimp only)
    by_cases hdl : d ≤ t / 86400 + 7
    · repeat' ((conv => whnf); first | (refine ⟨fun h => ?_, fun h => ?_⟩ <;> try (exfalso; first | omega | exact absurd h (by decide) | exact h rfl)) | (refine ⟨_, rday_h, t, trivial, leVs_of_eq rfl, .inl rfl, rfl, ?_⟩; show norm (I (dayF t)) _; rw [day_eq ht]) | refine ⟨⟨by omega, by omega⟩, ?_⟩ | fail)
      conv => whnf
      refine ⟨Nat × Int × Bool, fun xq => ⟨[(0, L 3 (l.map encH)), (1, I t), (6, I d), (7, I xq.2.1), (8, B xq.2.2), (9, I xq.1)], [], 0⟩, fun xq => xq.1 ≤ l.length ∧ Found (l.take xq.1) d t xq.2.1 xq.2.2, fun xq => l.length - xq.1, ⟨(0, _, _), ?_, [], ⟨⟨rfl, rfl⟩, ⟨⟨rfl, rfl⟩, ⟨⟨rfl, rfl⟩, ⟨⟨rfl, rfl⟩, ⟨⟨rfl, rfl⟩, ⟨⟨rfl, rfl⟩, trivial⟩⟩⟩⟩⟩⟩, trivial, rfl, rfl⟩, ?_⟩
      · (try dsimp only); exact ⟨Nat.zero_le _, Found.start d t⟩
      rintro ⟨k, u, ok⟩ hk
      obtain ⟨hk, hf⟩ : k ≤ l.length ∧ Found (l.take k) d t u ok := hk
      (try dsimp only)
      by_cases hkl : k < l.length
      · obtain ⟨x, hx'⟩ := getElem_some hkl
        have hx := hx'
        have pone : ([x] : List Hours).length ≤ 9223372036854775807 := by simp
        cases ok with
        | true =>
          by_cases hI : inP [x] (max t (d * 86400 + max 0 (min x.frm 86400)) : Int)
          · repeat' ((conv => whnf); first | (refine ⟨(k + 1, (max t (d * 86400 + max 0 (min x.frm 86400)) : Int), true), ⟨?_, by (try dsimp only); omega⟩, [], ⟨⟨rfl, rfl⟩, ⟨⟨rfl, rfl⟩, ⟨⟨rfl, rfl⟩, ⟨⟨rfl, rfl⟩, ⟨⟨rfl, rfl⟩, ⟨⟨rfl, rfl⟩, trivial⟩⟩⟩⟩⟩⟩, trivial, rfl, rfl⟩; (try dsimp only); exact ⟨by omega, (by rw [take_snoc _ _ _ hx]; exact hf.better (candR_in (by unfold candR; omega) hI) (fun v a b c e => candR_le a b e) (.inr (by first | omega | (unfold candR; omega))))⟩) | (refine ⟨(k + 1, u, true), ⟨?_, by (try dsimp only); omega⟩, [], ⟨⟨rfl, rfl⟩, ⟨⟨rfl, rfl⟩, ⟨⟨rfl, rfl⟩, ⟨⟨rfl, rfl⟩, ⟨⟨rfl, rfl⟩, ⟨⟨rfl, rfl⟩, trivial⟩⟩⟩⟩⟩⟩, trivial, rfl, rfl⟩; (try dsimp only); exact ⟨by omega, (by rw [take_snoc _ _ _ hx]; exact hf.worse (u := candR x d t) (fun v a b c e => candR_le a b e) (by unfold candR; omega))⟩) | (refine ⟨(k + 1, u, true), ⟨?_, by (try dsimp only); omega⟩, [], ⟨⟨rfl, rfl⟩, ⟨⟨rfl, rfl⟩, ⟨⟨rfl, rfl⟩, ⟨⟨rfl, rfl⟩, ⟨⟨rfl, rfl⟩, ⟨⟨rfl, rfl⟩, trivial⟩⟩⟩⟩⟩⟩, trivial, rfl, rfl⟩; (try dsimp only); exact ⟨by omega, (by rw [take_snoc _ _ _ hx]; exact hf.skip fun v a b c e => by obtain ⟨n1, n2⟩ := candR_none g1 a b c e; first | exact hI n2 | (unfold candR at n1; omega))⟩) | (refine ⟨fun h => ?_, fun h => ?_⟩ <;> try (exfalso; first | omega | exact absurd h (by decide) | exact h rfl)) | (refine ⟨by omega, fun r hrr => ?_⟩; obtain rfl := get_row hrr hx) | (refine ⟨_, rin_h, ([x], (max t (d * 86400 + max 0 (min x.frm 86400)) : Int)), pone, leVs_of_eq rfl, .inl rfl, rfl, ?_⟩; show norm (B (decide (inP [x] (max t (d * 86400 + max 0 (min x.frm 86400)) : Int)))) _; rw [decide_eq_true hI]) | refine ⟨⟨by omega, by omega⟩, ?_⟩ | fail)
          · repeat' ((conv => whnf); first | (refine ⟨(k + 1, u, true), ⟨?_, by (try dsimp only); omega⟩, [], ⟨⟨rfl, rfl⟩, ⟨⟨rfl, rfl⟩, ⟨⟨rfl, rfl⟩, ⟨⟨rfl, rfl⟩, ⟨⟨rfl, rfl⟩, ⟨⟨rfl, rfl⟩, trivial⟩⟩⟩⟩⟩⟩, trivial, rfl, rfl⟩; (try dsimp only); exact ⟨by omega, (by rw [take_snoc _ _ _ hx]; exact hf.skip fun v a b c e => by obtain ⟨n1, n2⟩ := candR_none g1 a b c e; first | exact hI n2 | (unfold candR at n1; omega))⟩) | (refine ⟨fun h => ?_, fun h => ?_⟩ <;> try (exfalso; first | omega | exact absurd h (by decide) | exact h rfl)) | (refine ⟨by omega, fun r hrr => ?_⟩; obtain rfl := get_row hrr hx) | (refine ⟨_, rin_h, ([x], (max t (d * 86400 + max 0 (min x.frm 86400)) : Int)), pone, leVs_of_eq rfl, .inl rfl, rfl, ?_⟩; show norm (B (decide (inP [x] (max t (d * 86400 + max 0 (min x.frm 86400)) : Int)))) _; rw [decide_eq_false hI]) | refine ⟨⟨by omega, by omega⟩, ?_⟩ | fail)
        | false =>
          by_cases hI : inP [x] (max t (d * 86400 + max 0 (min x.frm 86400)) : Int)
          · repeat' ((conv => whnf); first | (refine ⟨(k + 1, (max t (d * 86400 + max 0 (min x.frm 86400)) : Int), true), ⟨?_, by (try dsimp only); omega⟩, [], ⟨⟨rfl, rfl⟩, ⟨⟨rfl, rfl⟩, ⟨⟨rfl, rfl⟩, ⟨⟨rfl, rfl⟩, ⟨⟨rfl, rfl⟩, ⟨⟨rfl, rfl⟩, trivial⟩⟩⟩⟩⟩⟩, trivial, rfl, rfl⟩; (try dsimp only); exact ⟨by omega, (by rw [take_snoc _ _ _ hx]; exact hf.better (candR_in (by unfold candR; omega) hI) (fun v a b c e => candR_le a b e) (.inl rfl))⟩) | (refine ⟨(k + 1, u, false), ⟨?_, by (try dsimp only); omega⟩, [], ⟨⟨rfl, rfl⟩, ⟨⟨rfl, rfl⟩, ⟨⟨rfl, rfl⟩, ⟨⟨rfl, rfl⟩, ⟨⟨rfl, rfl⟩, ⟨⟨rfl, rfl⟩, trivial⟩⟩⟩⟩⟩⟩, trivial, rfl, rfl⟩; (try dsimp only); exact ⟨by omega, (by rw [take_snoc _ _ _ hx]; exact hf.skip fun v a b c e => by obtain ⟨n1, n2⟩ := candR_none g1 a b c e; first | exact hI n2 | (unfold candR at n1; omega))⟩) | (refine ⟨fun h => ?_, fun h => ?_⟩ <;> try (exfalso; first | omega | exact absurd h (by decide) | exact h rfl)) | (refine ⟨by omega, fun r hrr => ?_⟩; obtain rfl := get_row hrr hx) | (refine ⟨_, rin_h, ([x], (max t (d * 86400 + max 0 (min x.frm 86400)) : Int)), pone, leVs_of_eq rfl, .inl rfl, rfl, ?_⟩; show norm (B (decide (inP [x] (max t (d * 86400 + max 0 (min x.frm 86400)) : Int)))) _; rw [decide_eq_true hI]) | refine ⟨⟨by omega, by omega⟩, ?_⟩ | fail)
          · repeat' ((conv => whnf); first | (refine ⟨(k + 1, u, false), ⟨?_, by (try dsimp only); omega⟩, [], ⟨⟨rfl, rfl⟩, ⟨⟨rfl, rfl⟩, ⟨⟨rfl, rfl⟩, ⟨⟨rfl, rfl⟩, ⟨⟨rfl, rfl⟩, ⟨⟨rfl, rfl⟩, trivial⟩⟩⟩⟩⟩⟩, trivial, rfl, rfl⟩; (try dsimp only); exact ⟨by omega, (by rw [take_snoc _ _ _ hx]; exact hf.skip fun v a b c e => by obtain ⟨n1, n2⟩ := candR_none g1 a b c e; first | exact hI n2 | (unfold candR at n1; omega))⟩) | (refine ⟨fun h => ?_, fun h => ?_⟩ <;> try (exfalso; first | omega | exact absurd h (by decide) | exact h rfl)) | (refine ⟨by omega, fun r hrr => ?_⟩; obtain rfl := get_row hrr hx) | (refine ⟨_, rin_h, ([x], (max t (d * 86400 + max 0 (min x.frm 86400)) : Int)), pone, leVs_of_eq rfl, .inl rfl, rfl, ?_⟩; show norm (B (decide (inP [x] (max t (d * 86400 + max 0 (min x.frm 86400)) : Int)))) _; rw [decide_eq_false hI]) | refine ⟨⟨by omega, by omega⟩, ?_⟩ | fail)
      · rw [take_end hkl] at hf
        cases ok with
        | true =>
          repeat' ((conv => whnf); first | (refine ⟨fun h => ?_, fun h => ?_⟩ <;> try (exfalso; first | omega | exact absurd h (by decide) | exact h rfl)) | fail)
          conv => whnf
          refine ⟨[], rfl, trivial, ?_⟩
          show leVs [I u, B true] [I (nextR l t0).1, B (nextR l t0).2]
          rw [← hmx, hb.hit hf]
          exact leVs_of_eq rfl
        | false =>
          repeat' ((conv => whnf); first | (refine ⟨d + 1, ⟨?_, by (try dsimp only); omega⟩, [], ⟨⟨rfl, rfl⟩, ⟨⟨rfl, rfl⟩, ⟨⟨rfl, rfl⟩, trivial⟩⟩⟩, trivial, rfl, rfl⟩; (try dsimp only); exact ⟨⟨by omega, by omega⟩, hb.miss hf⟩) | (refine ⟨fun h => ?_, fun h => ?_⟩ <;> try (exfalso; first | omega | exact absurd h (by decide) | exact h rfl)) | refine ⟨⟨by omega, by omega⟩, ?_⟩ | fail)
    · rw [show d = t / 86400 + 8 by omega] at hb
      repeat' ((conv => whnf); first | (refine ⟨fun h => ?_, fun h => ?_⟩ <;> try (exfalso; first | omega | exact absurd h (by decide) | exact h rfl)) | (refine ⟨_, rday_h, t, trivial, leVs_of_eq rfl, .inl rfl, rfl, ?_⟩; show norm (I (dayF t)) _; rw [day_eq ht]) | refine ⟨⟨by omega, by omega⟩, ?_⟩ | fail)
      conv => whnf
      refine ⟨[], rfl, trivial, ?_⟩
      show leVs [I 0, B false] [I (nextR l t0).1, B (nextR l t0).2]
      rw [← hmx, hb.week g1]
      exact leVs_of_eq rfl
theorem rnext_h : Holds Try.prog 23 rnextS := holds_of mix Try.func23 rnextLow (fun _ => rfl) rnextV

end Go.Proofs.Ytmehmnlhnbeeeaa
