/- The clock: the reference's sets. -/
import Derived.Test.YtmehmnlhnbeeeaaF5
import Derived.Test.YtmehmnlhnbeeeaaP5
namespace Go.Proofs.Ytmehmnlhnbeeeaa
open Go.RowKit

/-! skiarea/skiarearef02.ends -/
def endsIr : IFn := ⟨30, [.tmp 2],
  (.seq (.ops [
    ⟨(some 2), .mov, [.const (.slice none 0 0)], none⟩] false)
  (.seq (.ops [
    ⟨(some 3), .nilOwn 3 1, [], none⟩] false)
  (.seq (.seq (.ops [
    ⟨(some 4), .mov, [.const (.int .i64 0)], none⟩] false)
  (.block 0
    (.loop
      (.seq (.seq (.ops [
        ⟨(some 5), .mov, [.tmp 4], none⟩,
        ⟨(some 6), .mov, [.tmp 0], none⟩,
        ⟨(some 7), .len, [.tmp 6], none⟩,
        ⟨(some 8), .cmp .lss, [.tmp 5, .tmp 7], none⟩] false)
      (.cond (.tmp 8)
        .skip
        (.exit 0)))
      (.seq (.block 1
        (.seq (.ops [
          ⟨(some 11), .mov, [.tmp 0], none⟩,
          ⟨(some 12), .mov, [.tmp 4], none⟩,
          ⟨(some 13), .idx 2, [.tmp 11, .tmp 12], none⟩,
          ⟨(some 14), .load 2 true, [.tmp 13], none⟩,
          ⟨(some 15), .call 47, [.tmp 14], none⟩] false)
        (.cond (.tmp 15)
          (.ops [
            ⟨(some 16), .mov, [.tmp 3], none⟩,
            ⟨(some 17), .mov, [.tmp 0], none⟩,
            ⟨(some 18), .mov, [.tmp 4], none⟩,
            ⟨(some 19), .idx 2, [.tmp 17, .tmp 18], none⟩,
            ⟨(some 20), .faddr 0, [.tmp 19], none⟩,
            ⟨(some 21), .load 1 false, [.tmp 20], none⟩,
            ⟨(some 22), .mov, [.tmp 0], none⟩,
            ⟨(some 23), .mov, [.tmp 4], none⟩,
            ⟨(some 24), .idx 2, [.tmp 22, .tmp 23], none⟩,
            ⟨(some 25), .faddr 1, [.tmp 24], none⟩,
            ⟨(some 26), .load 1 false, [.tmp 25], none⟩,
            ⟨(some 27), .buildSl 3 1, [.tmp 21, .tmp 26], none⟩,
            ⟨(some 28), .append 3 1 8, [.tmp 16, .tmp 27], none⟩,
            ⟨(some 3), .mov, [.tmp 28], none⟩] true)
          .skip)))
      (.ops [
        ⟨(some 9), .mov, [.tmp 4], none⟩,
        ⟨(some 10), .bin .add .i64 false, [.tmp 9, .const (.int .i64 1)], none⟩,
        ⟨(some 4), .mov, [.tmp 10], none⟩] false))))))
  (.seq (.ops [
    ⟨(some 29), .mov, [.tmp 3], none⟩,
    ⟨(some 2), .mov, [.tmp 29], none⟩] false)
  .ret))))⟩
theorem endsLow : lowF Try.prog { owns := [(3, 3)] } Try.f40 = some endsIr := by kernel_rfl
def endsS : Spec := ⟨List Ivl, fun l => [L 2 (l.map encV)], fun l => l.length ≤ 1000000, fun _ => .osl 0, fun l => [.row 3 1 ((endsF l).map cI)]⟩
theorem endsV : fnV Try.prog endsIr endsS := by
  intro (l : List Ivl) hx
  replace hx : l.length ≤ 1000000 := hx
  show vc _ _ _ ⟨argEnv 0 [L 2 (l.map encV)], [], 0⟩
  have hl : (l.map encV).length = l.length := List.length_map ..
  conv => whnf
  refine ⟨Nat × (List (List CV)), fun xq => ⟨[(0, L 2 (l.map encV)), (3, .osl 0), (4, I xq.1)], [(0, .row 3 1 xq.2)], 1⟩, fun xq => xq.1 ≤ l.length ∧ xq.2 = (endsF (l.take xq.1)).map cI, fun xq => l.length - xq.1, ⟨(0, _), ?_, [], ⟨⟨rfl, rfl⟩, ⟨⟨rfl, rfl⟩, ⟨⟨rfl, rfl⟩, trivial⟩⟩⟩, ⟨⟨rfl, rfl, rfl⟩, trivial⟩, rfl, rfl⟩, ?_⟩
  · (try dsimp only); exact ⟨Nat.zero_le _, rfl⟩
  rintro ⟨k, es⟩ hk
  obtain ⟨hk, rfl⟩ : k ≤ l.length ∧ es = (endsF (l.take k)).map cI := hk
  (try dsimp only)
  have hel := ends_len (l.take k)
  have htl : (l.take k).length ≤ l.length := by simp; omega
  have hlo : ((endsF (l.take k)).map cI).length = (endsF (l.take k)).length := List.length_map ..
  by_cases hkl : k < l.length
  · obtain ⟨x, hx⟩ := getElem_some hkl
    have hs := endsF_step hx
    unfold ends1 at hs
    by_cases hv : validI x
    · rw [if_pos hv] at hs
      repeat' ((conv => whnf); first | (refine ⟨(k + 1, _), ⟨?_, by (try dsimp only); omega⟩, [(0, 1)], ⟨⟨rfl, rfl⟩, ⟨⟨rfl, rfl⟩, ⟨⟨rfl, rfl⟩, trivial⟩⟩⟩, ⟨⟨rfl, rfl, rfl⟩, trivial⟩, rfl, rfl⟩; (try dsimp only); exact ⟨by omega, by rw [hs, List.map_append]; rfl⟩) | (refine ⟨fun h => ?_, fun h => ?_⟩ <;> try (exfalso; first | omega | exact absurd h (by decide) | exact h rfl)) | (refine ⟨by omega, fun r hrr => ?_⟩; obtain rfl := get_row hrr hx) | (refine ⟨_, rvalid_h, x, trivial, leVs_of_eq rfl, .inl rfl, rfl, ?_⟩; show norm (B (decide (validI x))) _; rw [decide_eq_true hv]) | (refine ⟨⟨by rw [hlo]; simp only [List.length_cons, List.length_nil]; omega, by rw [hlo]; simp only [List.length_cons, List.length_nil]; omega⟩, ?_⟩) | refine ⟨⟨by omega, by omega⟩, ?_⟩ | fail)
    · rw [if_neg hv, List.append_nil] at hs
      repeat' ((conv => whnf); first | (refine ⟨(k + 1, _), ⟨?_, by (try dsimp only); omega⟩, [(0, 0)], ⟨⟨rfl, rfl⟩, ⟨⟨rfl, rfl⟩, ⟨⟨rfl, rfl⟩, trivial⟩⟩⟩, ⟨⟨rfl, rfl, rfl⟩, trivial⟩, rfl, rfl⟩; (try dsimp only); exact ⟨by omega, by rw [hs]⟩) | (refine ⟨fun h => ?_, fun h => ?_⟩ <;> try (exfalso; first | omega | exact absurd h (by decide) | exact h rfl)) | (refine ⟨by omega, fun r hrr => ?_⟩; obtain rfl := get_row hrr hx) | (refine ⟨_, rvalid_h, x, trivial, leVs_of_eq rfl, .inl rfl, rfl, ?_⟩; show norm (B (decide (validI x))) _; rw [decide_eq_false hv]) | (refine ⟨⟨by rw [hlo]; simp only [List.length_cons, List.length_nil]; omega, by rw [hlo]; simp only [List.length_cons, List.length_nil]; omega⟩, ?_⟩) | refine ⟨⟨by omega, by omega⟩, ?_⟩ | fail)
  · rw [take_end hkl] at *
    repeat' ((conv => whnf); first | (refine ⟨fun h => ?_, fun h => ?_⟩ <;> try (exfalso; first | omega | exact absurd h (by decide) | exact h rfl)) | fail)
    conv => whnf
    exact ⟨[0], rfl, ⟨⟨rfl, _, _, _, rfl⟩, trivial⟩, rfl⟩
theorem ends_h : Holds Try.prog 40 endsS := holds_of mix Try.func40 endsLow (fun _ => rfl) endsV

/-! skiarea/skiarearef02.after -/
def afterIr : IFn := ⟨39, [.tmp 4, .tmp 5],
  (.seq (.ops [
    ⟨(some 4), .mov, [.const (.int .i64 0)], none⟩,
    ⟨(some 5), .mov, [.const (.bool false)], none⟩] false)
  (.seq (.ops [
    ⟨(some 6), .mov, [.const (.int .i64 0)], none⟩,
    ⟨(some 7), .mov, [.const (.bool false)], none⟩] false)
  (.seq (.seq (.ops [
    ⟨(some 8), .mov, [.const (.int .i64 0)], none⟩] false)
  (.block 0
    (.loop
      (.seq (.seq (.ops [
        ⟨(some 9), .mov, [.tmp 8], none⟩,
        ⟨(some 10), .mov, [.tmp 0], none⟩,
        ⟨(some 11), .len, [.tmp 10], none⟩,
        ⟨(some 12), .cmp .lss, [.tmp 9, .tmp 11], none⟩] false)
      (.cond (.tmp 12)
        .skip
        (.exit 0)))
      (.seq (.block 1
        (.seq (.ops [
          ⟨(some 15), .mov, [.tmp 0], none⟩,
          ⟨(some 16), .mov, [.tmp 8], none⟩,
          ⟨(some 17), .idx 1, [.tmp 15, .tmp 16], none⟩,
          ⟨(some 18), .load 1 false, [.tmp 17], none⟩,
          ⟨(some 19), .mov, [.tmp 1], none⟩,
          ⟨(some 20), .cmp .gtr, [.tmp 18, .tmp 19], none⟩,
          ⟨(some 21), .mov, [.tmp 20], none⟩,
          ⟨(some 22), .mov, [.tmp 7], (some (21, true))⟩,
          ⟨(some 23), .not, [.tmp 22], (some (21, true))⟩,
          ⟨(some 24), .mov, [.tmp 23], (some (21, true))⟩,
          ⟨(some 25), .mov, [.tmp 0], (some (24, false))⟩,
          ⟨(some 26), .mov, [.tmp 8], (some (24, false))⟩,
          ⟨(some 27), .idx 1, [.tmp 25, .tmp 26], (some (24, false))⟩,
          ⟨(some 28), .load 1 false, [.tmp 27], (some (24, false))⟩,
          ⟨(some 29), .mov, [.tmp 6], (some (24, false))⟩,
          ⟨(some 30), .cmp .lss, [.tmp 28, .tmp 29], (some (24, false))⟩,
          ⟨(some 31), .pick, [.tmp 24, .const (.bool true), .tmp 30], (some (21, true))⟩,
          ⟨(some 32), .pick, [.tmp 21, .tmp 31, .const (.bool false)], none⟩] false)
        (.cond (.tmp 32)
          (.ops [
            ⟨(some 33), .mov, [.tmp 0], none⟩,
            ⟨(some 34), .mov, [.tmp 8], none⟩,
            ⟨(some 35), .idx 1, [.tmp 33, .tmp 34], none⟩,
            ⟨(some 36), .load 1 false, [.tmp 35], none⟩,
            ⟨(some 6), .mov, [.tmp 36], none⟩,
            ⟨(some 7), .mov, [.const (.bool true)], none⟩] false)
          .skip)))
      (.ops [
        ⟨(some 13), .mov, [.tmp 8], none⟩,
        ⟨(some 14), .bin .add .i64 false, [.tmp 13, .const (.int .i64 1)], none⟩,
        ⟨(some 8), .mov, [.tmp 14], none⟩] false))))))
  (.seq (.ops [
    ⟨(some 37), .mov, [.tmp 6], none⟩,
    ⟨(some 38), .mov, [.tmp 7], none⟩,
    ⟨(some 4), .mov, [.tmp 37], none⟩,
    ⟨(some 5), .mov, [.tmp 38], none⟩] false)
  .ret))))⟩
theorem afterLow : lowF Try.prog {} Try.f41 = some afterIr := by kernel_rfl
def afterS : Spec := spec (List Int × Int) (fun p => [L 1 (p.1.map cI), I p.2]) (fun p => p.1.length ≤ 9000000) (fun p => .tup [I (afterF p.1 p.2).1, B (afterF p.1 p.2).2])
theorem afterV : fnV Try.prog afterIr afterS := by
  intro ⟨(l : List Int), (n : Int)⟩ hx
  replace hx : l.length ≤ 9000000 := hx
  show vc _ _ _ ⟨argEnv 0 [L 1 (l.map cI), I n], [], 0⟩
  have hl : (l.map cI).length = l.length := List.length_map ..
  conv => whnf
  refine ⟨Nat × Int × Bool, fun xq => ⟨[(0, L 1 (l.map cI)), (1, I n), (6, I xq.2.1), (7, B xq.2.2), (8, I xq.1)], [], 0⟩, fun xq => xq.1 ≤ l.length ∧ afterTo l n xq.1 = (xq.2.1, xq.2.2), fun xq => l.length - xq.1, ⟨(0, _, _), ?_, [], ⟨⟨rfl, rfl⟩, ⟨⟨rfl, rfl⟩, ⟨⟨rfl, rfl⟩, ⟨⟨rfl, rfl⟩, ⟨⟨rfl, rfl⟩, trivial⟩⟩⟩⟩⟩, trivial, rfl, rfl⟩, ?_⟩
  · (try dsimp only); exact ⟨Nat.zero_le _, rfl⟩
  rintro ⟨k, u, ok⟩ hk
  obtain ⟨hk, hf⟩ : k ≤ l.length ∧ afterTo l n k = (u, ok) := hk
  (try dsimp only)
  by_cases hkl : k < l.length
  · obtain ⟨x, hx⟩ := getElem_some hkl
    have hs := afterTo_succ (n := n) hx
    rw [hf, afterStep] at hs
    dsimp only at hs
    cases ok with
    | true =>
      repeat' ((conv => whnf); first | (refine ⟨(k + 1, x, true), ⟨?_, by (try dsimp only); omega⟩, [], ⟨⟨rfl, rfl⟩, ⟨⟨rfl, rfl⟩, ⟨⟨rfl, rfl⟩, ⟨⟨rfl, rfl⟩, ⟨⟨rfl, rfl⟩, trivial⟩⟩⟩⟩⟩, trivial, rfl, rfl⟩; (try dsimp only); exact ⟨by omega, by rw [hs, if_pos ⟨by omega, .inr (by omega)⟩]⟩) | (refine ⟨(k + 1, u, true), ⟨?_, by (try dsimp only); omega⟩, [], ⟨⟨rfl, rfl⟩, ⟨⟨rfl, rfl⟩, ⟨⟨rfl, rfl⟩, ⟨⟨rfl, rfl⟩, ⟨⟨rfl, rfl⟩, trivial⟩⟩⟩⟩⟩, trivial, rfl, rfl⟩; (try dsimp only); exact ⟨by omega, by rw [hs, if_neg (by simp; omega)]⟩) | (refine ⟨fun h => ?_, fun h => ?_⟩ <;> try (exfalso; first | omega | exact absurd h (by decide) | exact h rfl)) | (refine ⟨by omega, fun r hrr => ?_⟩; obtain rfl := get_row hrr hx) | refine ⟨⟨by omega, by omega⟩, ?_⟩ | fail)
    | false =>
      repeat' ((conv => whnf); first | (refine ⟨(k + 1, x, true), ⟨?_, by (try dsimp only); omega⟩, [], ⟨⟨rfl, rfl⟩, ⟨⟨rfl, rfl⟩, ⟨⟨rfl, rfl⟩, ⟨⟨rfl, rfl⟩, ⟨⟨rfl, rfl⟩, trivial⟩⟩⟩⟩⟩, trivial, rfl, rfl⟩; (try dsimp only); exact ⟨by omega, by rw [hs, if_pos ⟨by omega, .inl rfl⟩]⟩) | (refine ⟨(k + 1, u, false), ⟨?_, by (try dsimp only); omega⟩, [], ⟨⟨rfl, rfl⟩, ⟨⟨rfl, rfl⟩, ⟨⟨rfl, rfl⟩, ⟨⟨rfl, rfl⟩, ⟨⟨rfl, rfl⟩, trivial⟩⟩⟩⟩⟩, trivial, rfl, rfl⟩; (try dsimp only); exact ⟨by omega, by rw [hs, if_neg (by simp; omega)]⟩) | (refine ⟨fun h => ?_, fun h => ?_⟩ <;> try (exfalso; first | omega | exact absurd h (by decide) | exact h rfl)) | (refine ⟨by omega, fun r hrr => ?_⟩; obtain rfl := get_row hrr hx) | refine ⟨⟨by omega, by omega⟩, ?_⟩ | fail)
  · rw [afterTo_end hkl] at hf
    repeat' ((conv => whnf); first | (refine ⟨fun h => ?_, fun h => ?_⟩ <;> try (exfalso; first | omega | exact absurd h (by decide) | exact h rfl)) | fail)
    conv => whnf
    refine ⟨[], rfl, trivial, ?_⟩
    show leVs [I u, B ok] [I (afterF l n).1, B (afterF l n).2]
    rw [hf]
    exact leVs_of_eq rfl
theorem after_h : Holds Try.prog 41 afterS := holds_of mix Try.func41 afterLow (fun _ => rfl) afterV

/-! skiarea/skiarearef02.has -/
def hasIr : IFn := ⟨16, [.tmp 6],
  (.seq (.ops [
    ⟨(some 6), .mov, [.const (.bool false)], none⟩] false)
  (.seq (.ops [
    ⟨(some 7), .mov, [.tmp 0], none⟩,
    ⟨(some 8), .mov, [.tmp 2], none⟩,
    ⟨(some 9), .call 32, [.tmp 7, .tmp 8], none⟩,
    ⟨(some 10), .mov, [.tmp 9], none⟩,
    ⟨(some 11), .mov, [.tmp 1], (some (10, true))⟩,
    ⟨(some 12), .mov, [.tmp 2], (some (10, true))⟩,
    ⟨(some 13), .call 32, [.tmp 11, .tmp 12], (some (10, true))⟩,
    ⟨(some 14), .not, [.tmp 13], (some (10, true))⟩,
    ⟨(some 15), .pick, [.tmp 10, .tmp 14, .const (.bool false)], none⟩,
    ⟨(some 6), .mov, [.tmp 15], none⟩] false)
  .ret))⟩
theorem hasLow : lowF Try.prog {} Try.f42 = some hasIr := by kernel_rfl
def hasS : Spec := spec (List Ivl × List Ivl × Int) (fun p => [L 2 (p.1.map encV), L 2 (p.2.1.map encV), I p.2.2]) (fun p => p.1.length ≤ 1000000 ∧ p.2.1.length ≤ 1000000) (fun p => B (decide (hasP p.1 p.2.1 p.2.2)))
theorem hasV : fnV Try.prog hasIr hasS := by
  intro ⟨(a : List Ivl), (b : List Ivl), (t : Int)⟩ hx
  obtain ⟨h1, h2⟩ : a.length ≤ 1000000 ∧ b.length ≤ 1000000 := hx
  have p1 : a.length ≤ 9223372036854775807 := by omega
  have p2 : b.length ≤ 9223372036854775807 := by omega
  show vc _ _ _ ⟨argEnv 0 [L 2 (a.map encV), L 2 (b.map encV), I t], [], 0⟩
  by_cases ha : cov a t
  · by_cases hb : cov b t
    · repeat' ((conv => whnf); first | (refine ⟨fun h => ?_, fun h => ?_⟩ <;> try (exfalso; first | omega | exact absurd h (by decide) | exact h rfl)) | (refine ⟨_, rcover_h, (a, t), p1, leVs_of_eq rfl, .inl rfl, rfl, ?_⟩; show norm (B (decide (cov a t))) _; rw [decide_eq_true ha]) | (refine ⟨_, rcover_h, (b, t), p2, leVs_of_eq rfl, .inl rfl, rfl, ?_⟩; show norm (B (decide (cov b t))) _; rw [decide_eq_true hb]) | refine ⟨[], rfl, trivial, congrArg CV.bool ?_⟩ | fail)
      all_goals exact (decide_eq_false fun hc : hasP a b t => hc.2 hb).symm
    · repeat' ((conv => whnf); first | (refine ⟨fun h => ?_, fun h => ?_⟩ <;> try (exfalso; first | omega | exact absurd h (by decide) | exact h rfl)) | (refine ⟨_, rcover_h, (a, t), p1, leVs_of_eq rfl, .inl rfl, rfl, ?_⟩; show norm (B (decide (cov a t))) _; rw [decide_eq_true ha]) | (refine ⟨_, rcover_h, (b, t), p2, leVs_of_eq rfl, .inl rfl, rfl, ?_⟩; show norm (B (decide (cov b t))) _; rw [decide_eq_false hb]) | refine ⟨[], rfl, trivial, congrArg CV.bool ?_⟩ | fail)
      all_goals exact (decide_eq_true (⟨ha, hb⟩ : hasP a b t)).symm
  · repeat' ((conv => whnf); first | (refine ⟨fun h => ?_, fun h => ?_⟩ <;> try (exfalso; first | omega | exact absurd h (by decide) | exact h rfl)) | (refine ⟨_, rcover_h, (a, t), p1, leVs_of_eq rfl, .inl rfl, rfl, ?_⟩; show norm (B (decide (cov a t))) _; rw [decide_eq_false ha]) | refine ⟨[], rfl, trivial, congrArg CV.bool ?_⟩ | fail)
    all_goals exact (decide_eq_false fun hc : hasP a b t => ha hc.1).symm
theorem has_h : Holds Try.prog 42 hasS := holds_of mix Try.func42 hasLow (fun _ => rfl) hasV

/-! skiarea/skiarearef02.Minus -/
def rminusIr : IFn := ⟨64, [.tmp 4],
  (.seq (.ops [
    ⟨(some 4), .mov, [.const (.slice none 0 0)], none⟩] false)
  (.seq (.ops [
    ⟨(some 11), .mov, [.tmp 0], none⟩,
    ⟨(some 12), .callo 40, [.tmp 11], none⟩,
    ⟨(some 13), .mov, [.tmp 1], none⟩,
    ⟨(some 14), .callo 40, [.tmp 13], none⟩,
    ⟨(some 15), .append 3 1 8, [.tmp 12, .tmp 14], none⟩,
    ⟨(some 5), .mov, [.tmp 15], none⟩] false)
  (.seq (.ops [
    ⟨(some 6), .nilOwn 39 2, [], none⟩] false)
  (.seq (.ops [
    ⟨(some 17), .mov, [.tmp 5], none⟩,
    ⟨(some 18), .call 41, [.tmp 17, .const (.int .i64 (-1))], none⟩,
    ⟨(some 16), .mov, [.tmp 18], none⟩,
    ⟨(some 19), .extract 0, [.tmp 16], none⟩,
    ⟨(some 20), .extract 1, [.tmp 16], none⟩,
    ⟨(some 7), .mov, [.tmp 19], none⟩,
    ⟨(some 8), .mov, [.tmp 20], none⟩] false)
  (.seq (.block 0
    (.loop
      (.seq (.seq (.ops [
        ⟨(some 21), .mov, [.tmp 8], none⟩] false)
      (.cond (.tmp 21)
        .skip
        (.exit 0)))
      (.block 1
        (.seq (.seq (.ops [
          ⟨(some 22), .mov, [.tmp 0], none⟩,
          ⟨(some 23), .mov, [.tmp 1], none⟩,
          ⟨(some 24), .mov, [.tmp 7], none⟩,
          ⟨(some 25), .call 42, [.tmp 22, .tmp 23, .tmp 24], none⟩,
          ⟨(some 26), .mov, [.tmp 25], none⟩,
          ⟨(some 27), .mov, [.tmp 0], (some (26, true))⟩,
          ⟨(some 28), .mov, [.tmp 1], (some (26, true))⟩,
          ⟨(some 29), .mov, [.tmp 7], (some (26, true))⟩,
          ⟨(some 30), .bin .sub .i64 false, [.tmp 29, .const (.int .i64 1)], (some (26, true))⟩,
          ⟨(some 31), .call 42, [.tmp 27, .tmp 28, .tmp 30], (some (26, true))⟩,
          ⟨(some 32), .not, [.tmp 31], (some (26, true))⟩,
          ⟨(some 33), .pick, [.tmp 26, .tmp 32, .const (.bool false)], none⟩] false)
        (.cond (.tmp 33)
          (.ops [
            ⟨(some 34), .mov, [.tmp 6], none⟩,
            ⟨(some 35), .mov, [.tmp 7], none⟩,
            ⟨(some 36), .mov, [.tmp 7], none⟩,
            ⟨(some 37), .build [.int .i64 0, .int .i64 0] [(0, 1), (1, 1)], [.tmp 35, .tmp 36], none⟩,
            ⟨(some 38), .buildSl 39 2, [.tmp 37], none⟩,
            ⟨(some 39), .append 39 2 16, [.tmp 34, .tmp 38], none⟩,
            ⟨(some 6), .mov, [.tmp 39], none⟩] false)
          .skip))
        (.seq (.seq (.ops [
          ⟨(some 40), .mov, [.tmp 0], none⟩,
          ⟨(some 41), .mov, [.tmp 1], none⟩,
          ⟨(some 42), .mov, [.tmp 7], none⟩,
          ⟨(some 43), .call 42, [.tmp 40, .tmp 41, .tmp 42], none⟩] false)
        (.cond (.tmp 43)
          (.seq (.ops [
            ⟨(some 45), .mov, [.tmp 5], none⟩,
            ⟨(some 46), .mov, [.tmp 7], none⟩,
            ⟨(some 47), .call 41, [.tmp 45, .tmp 46], none⟩,
            ⟨(some 44), .mov, [.tmp 47], none⟩,
            ⟨(some 48), .extract 0, [.tmp 44], none⟩,
            ⟨(some 49), .extract 1, [.tmp 44], none⟩,
            ⟨(some 9), .mov, [.tmp 48], none⟩,
            ⟨(some 10), .mov, [.tmp 49], none⟩] false)
          (.ops [
            ⟨(some 50), .mov, [.tmp 6], none⟩,
            ⟨(some 51), .mov, [.tmp 6], none⟩,
            ⟨(some 52), .len, [.tmp 51], none⟩,
            ⟨(some 53), .bin .sub .i64 false, [.tmp 52, .const (.int .i64 1)], none⟩,
            ⟨(some 54), .mov, [.tmp 9], none⟩,
            ⟨(some 55), .idx 2, [.tmp 50, .tmp 53], none⟩,
            ⟨(some 56), .faddr 1, [.tmp 55], none⟩,
            ⟨none, .store 1, [.tmp 56, .tmp 54], none⟩] false))
          .skip))
        (.ops [
          ⟨(some 58), .mov, [.tmp 5], none⟩,
          ⟨(some 59), .mov, [.tmp 7], none⟩,
          ⟨(some 60), .call 41, [.tmp 58, .tmp 59], none⟩,
          ⟨(some 57), .mov, [.tmp 60], none⟩,
          ⟨(some 61), .extract 0, [.tmp 57], none⟩,
          ⟨(some 62), .extract 1, [.tmp 57], none⟩,
          ⟨(some 7), .mov, [.tmp 61], none⟩,
          ⟨(some 8), .mov, [.tmp 62], none⟩] false)))))))
  (.seq (.ops [
    ⟨(some 63), .mov, [.tmp 6], none⟩,
    ⟨(some 4), .mov, [.tmp 63], none⟩] false)
  .ret))))))⟩
theorem rminusLow : lowF Try.prog { owns := [(6, 39)], gives := [12, 14] } Try.f27 = some rminusIr := by kernel_rfl
def rminusS : Spec := spec (List Ivl × List Ivl) (fun p => [L 2 (p.1.map encV), L 2 (p.2.map encV)]) (fun p => p.1.length ≤ 1000000 ∧ p.2.length ≤ 1000000) (fun p => L 2 ((minusF p.1 p.2).map encV))
theorem rminusV : fnV Try.prog rminusIr rminusS := by
  intro ⟨(a : List Ivl), (b : List Ivl)⟩ hx
  obtain ⟨ha, hb⟩ : a.length ≤ 1000000 ∧ b.length ≤ 1000000 := hx
  show vc _ _ _ ⟨argEnv 0 [L 2 (a.map encV), L 2 (b.map encV)], [], 0⟩
  have e1 := ends_len a
  have e2 := ends_len b
  have hl1 : ((endsF a).map cI).length = (endsF a).length := List.length_map ..
  have hl2 : ((endsF b).map cI).length = (endsF b).length := List.length_map ..
  have hE : (endsF a).map cI ++ (endsF b).map cI = (endsAB a b).map cI := by rw [endsAB, List.map_append]
  have pE : (endsAB a b).length ≤ 9000000 := by rw [endsAB, List.length_append]; omega
  conv => whnf
  refine ⟨rfl, _, ends_h, a, ha, leVs_of_eq rfl, trivial, ?_⟩
  conv => whnf
  refine ⟨rfl, _, ends_h, b, hb, leVs_of_eq rfl, trivial, ?_⟩
  conv => whnf
  refine ⟨⟨by omega, by omega⟩, ?_⟩
  conv => whnf
  rw [hE]
  obtain ⟨t0, ok0, h0, hA0⟩ : ∃ t0 ok0, SV.tup [I (afterF (endsAB a b) (-1)).1, B (afterF (endsAB a b) (-1)).2] = .tup [I t0, B ok0] ∧ After (endsAB a b) (-1) t0 ok0 := ⟨_, _, rfl, after_spec _ _⟩
  repeat' ((conv => whnf); first | (refine ⟨_, after_h, (endsAB a b, (-1 : Int)), pE, leVs_of_eq rfl, .inr rfl, rfl, ?_⟩; show norm (.tup [I (afterF (endsAB a b) (-1)).1, B (afterF (endsAB a b) (-1)).2]) _; rw [h0]) | (refine ⟨fun h => ?_, fun h => ?_⟩) | fail)
  all_goals
    subst h
    conv => whnf
    refine ⟨Int × Bool × (List (List CV)), fun xq => ⟨[(0, L 2 (a.map encV)), (1, L 2 (b.map encV)), (5, .osl 0), (6, .osl 1), (7, I xq.1), (8, B xq.2.1)], [(0, .row 3 1 ((endsAB a b).map cI)), (1, .row 39 2 xq.2.2)], 2⟩, fun xq => ∃ out, xq.2.2 = out.map encV ∧ RS a b xq.1 xq.2.1 out, fun xq => if xq.2.1 = true then (20000002 - xq.1).toNat else 0, ⟨(_, _, _), ?_, [(0, 2), (1, 3)], ⟨⟨rfl, rfl⟩, ⟨⟨rfl, rfl⟩, ⟨⟨rfl, rfl⟩, ⟨⟨rfl, rfl⟩, ⟨⟨rfl, rfl⟩, ⟨⟨rfl, rfl⟩, trivial⟩⟩⟩⟩⟩⟩, ⟨⟨rfl, rfl, rfl⟩, ⟨⟨rfl, rfl, rfl⟩, trivial⟩⟩, rfl, rfl⟩, ?_⟩
    · (try dsimp only); exact ⟨[], rfl, RS.start hA0⟩
    rintro ⟨t, ok, es⟩ hk
    obtain ⟨out, rfl, hR⟩ : ∃ out, es = out.map encV ∧ RS a b t ok out := hk
    (try dsimp only)
    cases ok with
    | false =>
      repeat' ((conv => whnf); first | (refine ⟨fun h => ?_, fun h => ?_⟩ <;> try (exfalso; first | omega | exact absurd h (by decide) | exact h rfl)) | fail)
      conv => whnf
      refine ⟨[], rfl, trivial, ?_⟩
      show leV (L 2 (out.map encV)) (L 2 ((minusF a b).map encV))
      rw [minus_uniq hR.1 hR.2]
      exact leV_refl _
    | true =>
      obtain ⟨ht, hR⟩ := hR
      have htb := endsAB_bd ht
      have hlo : (out.map encV).length = out.length := List.length_map ..
      have hpl := hR.plain.sum
      obtain ⟨u, ok2, h2, hA⟩ : ∃ u ok2, SV.tup [I (afterF (endsAB a b) t).1, B (afterF (endsAB a b) t).2] = .tup [I u, B ok2] ∧ After (endsAB a b) t u ok2 := ⟨_, _, rfl, after_spec _ _⟩
      by_cases hh : hasP a b t
      · obtain rfl := has_more hh hA
        have hub := endsAB_bd hA.1.1
        have hut := hA.1.2
        by_cases hg : hasP a b (t - 1)
        · obtain ⟨w, hw, hwt⟩ := hR.last hg
          have h0 := (List.getElem?_eq_some_iff.1 hw).1
          have hti : (((out.map encV).length : Int) - 1).toNat = out.length - 1 := by omega
          have hw' : out[(((out.map encV).length : Int) - 1).toNat]? = some w := by rw [hti]; exact hw
          repeat' ((conv => whnf); first | (refine ⟨(u, true, _), ⟨?_, by show (20000002 - u).toNat < (20000002 - t).toNat; omega⟩, [(0, 0), (1, 1)], ⟨⟨rfl, rfl⟩, ⟨⟨rfl, rfl⟩, ⟨⟨rfl, rfl⟩, ⟨⟨rfl, rfl⟩, ⟨⟨rfl, rfl⟩, ⟨⟨rfl, rfl⟩, trivial⟩⟩⟩⟩⟩⟩, ⟨⟨rfl, rfl, rfl⟩, ⟨⟨rfl, rfl, rfl⟩, trivial⟩⟩, rfl, rfl⟩; (try dsimp only); exact ⟨out.set (out.length - 1) ⟨w.frm, u⟩, by rw [hti, List.map_set]; rfl, hR.join hh hw hwt hA⟩) | (refine ⟨fun h => ?_, fun h => ?_⟩ <;> try (exfalso; first | omega | exact absurd h (by decide) | exact h rfl)) | (refine ⟨_, has_h, (a, b, (t : Int)), ⟨ha, hb⟩, leVs_of_eq rfl, .inl rfl, rfl, ?_⟩; show norm (B (decide (hasP a b (t)))) _; rw [decide_eq_true hh]) | (refine ⟨_, has_h, (a, b, (t - 1 : Int)), ⟨ha, hb⟩, leVs_of_eq rfl, .inl rfl, rfl, ?_⟩; show norm (B (decide (hasP a b (t - 1)))) _; rw [decide_eq_true hg]) | (refine ⟨_, after_h, (endsAB a b, (t : Int)), pE, leVs_of_eq rfl, .inr rfl, rfl, ?_⟩; show norm (.tup [I (afterF (endsAB a b) (t)).1, B (afterF (endsAB a b) (t)).2]) _; rw [h2]) | refine load_at hw' ?_ | refine ⟨⟨by omega, by omega⟩, ?_⟩ | fail)
        · have hl3 : (out.map encV ++ [[CV.int .i64 t, CV.int .i64 t]]).length = out.length + 1 := by simp
          have hti : (((out.map encV ++ [[CV.int .i64 t, CV.int .i64 t]]).length : Int) - 1).toNat = out.length := by omega
          have hgt : (out.map encV ++ [[CV.int .i64 t, CV.int .i64 t]])[(((out.map encV ++ [[CV.int .i64 t, CV.int .i64 t]]).length : Int) - 1).toNat]? = some [CV.int .i64 t, CV.int .i64 t] := by rw [hti, List.getElem?_append_right (by omega), hlo]; simp
          repeat' ((conv => whnf); first | (refine ⟨(u, true, _), ⟨?_, by show (20000002 - u).toNat < (20000002 - t).toNat; omega⟩, [(0, 0), (1, 2)], ⟨⟨rfl, rfl⟩, ⟨⟨rfl, rfl⟩, ⟨⟨rfl, rfl⟩, ⟨⟨rfl, rfl⟩, ⟨⟨rfl, rfl⟩, ⟨⟨rfl, rfl⟩, trivial⟩⟩⟩⟩⟩⟩, ⟨⟨rfl, rfl, rfl⟩, ⟨⟨rfl, rfl, rfl⟩, trivial⟩⟩, rfl, rfl⟩; (try dsimp only); exact ⟨out ++ [⟨t, u⟩], by rw [hti, List.map_append, List.set_append_right _ _ (by omega), hlo, Nat.sub_self]; rfl, hR.new ht hh hg hA⟩) | (refine ⟨fun h => ?_, fun h => ?_⟩ <;> try (exfalso; first | omega | exact absurd h (by decide) | exact h rfl)) | (refine ⟨_, has_h, (a, b, (t : Int)), ⟨ha, hb⟩, leVs_of_eq rfl, .inl rfl, rfl, ?_⟩; show norm (B (decide (hasP a b (t)))) _; rw [decide_eq_true hh]) | (refine ⟨_, has_h, (a, b, (t - 1 : Int)), ⟨ha, hb⟩, leVs_of_eq rfl, .inl rfl, rfl, ?_⟩; show norm (B (decide (hasP a b (t - 1)))) _; rw [decide_eq_false hg]) | (refine ⟨_, after_h, (endsAB a b, (t : Int)), pE, leVs_of_eq rfl, .inr rfl, rfl, ?_⟩; show norm (.tup [I (afterF (endsAB a b) (t)).1, B (afterF (endsAB a b) (t)).2]) _; rw [h2]) | refine get_at hgt ?_ | (refine ⟨⟨by rw [hlo]; simp only [List.length_cons, List.length_nil]; omega, by rw [hlo]; simp only [List.length_cons, List.length_nil]; omega⟩, ?_⟩) | refine ⟨⟨by omega, by omega⟩, ?_⟩ | fail)
      · cases ok2 with
        | true =>
          have hut := hA.1.2
          have hub := endsAB_bd hA.1.1
          repeat' ((conv => whnf); first | (refine ⟨(u, true, _), ⟨?_, by show (20000002 - u).toNat < (20000002 - t).toNat; omega⟩, [(0, 0), (1, 1)], ⟨⟨rfl, rfl⟩, ⟨⟨rfl, rfl⟩, ⟨⟨rfl, rfl⟩, ⟨⟨rfl, rfl⟩, ⟨⟨rfl, rfl⟩, ⟨⟨rfl, rfl⟩, trivial⟩⟩⟩⟩⟩⟩, ⟨⟨rfl, rfl, rfl⟩, ⟨⟨rfl, rfl, rfl⟩, trivial⟩⟩, rfl, rfl⟩; (try dsimp only); exact ⟨out, rfl, hR.skip hh hA⟩) | (refine ⟨fun h => ?_, fun h => ?_⟩ <;> try (exfalso; first | omega | exact absurd h (by decide) | exact h rfl)) | (refine ⟨_, has_h, (a, b, (t : Int)), ⟨ha, hb⟩, leVs_of_eq rfl, .inl rfl, rfl, ?_⟩; show norm (B (decide (hasP a b (t)))) _; rw [decide_eq_false hh]) | (refine ⟨_, after_h, (endsAB a b, (t : Int)), pE, leVs_of_eq rfl, .inr rfl, rfl, ?_⟩; show norm (.tup [I (afterF (endsAB a b) (t)).1, B (afterF (endsAB a b) (t)).2]) _; rw [h2]) | refine ⟨⟨by omega, by omega⟩, ?_⟩ | fail)
        | false =>
          repeat' ((conv => whnf); first | (refine ⟨(u, false, _), ⟨?_, by show 0 < (20000002 - t).toNat; omega⟩, [(0, 0), (1, 1)], ⟨⟨rfl, rfl⟩, ⟨⟨rfl, rfl⟩, ⟨⟨rfl, rfl⟩, ⟨⟨rfl, rfl⟩, ⟨⟨rfl, rfl⟩, ⟨⟨rfl, rfl⟩, trivial⟩⟩⟩⟩⟩⟩, ⟨⟨rfl, rfl, rfl⟩, ⟨⟨rfl, rfl, rfl⟩, trivial⟩⟩, rfl, rfl⟩; (try dsimp only); exact ⟨out, rfl, hR.skip hh hA⟩) | (refine ⟨fun h => ?_, fun h => ?_⟩ <;> try (exfalso; first | omega | exact absurd h (by decide) | exact h rfl)) | (refine ⟨_, has_h, (a, b, (t : Int)), ⟨ha, hb⟩, leVs_of_eq rfl, .inl rfl, rfl, ?_⟩; show norm (B (decide (hasP a b (t)))) _; rw [decide_eq_false hh]) | (refine ⟨_, after_h, (endsAB a b, (t : Int)), pE, leVs_of_eq rfl, .inr rfl, rfl, ?_⟩; show norm (.tup [I (afterF (endsAB a b) (t)).1, B (afterF (endsAB a b) (t)).2]) _; rw [h2]) | refine ⟨⟨by omega, by omega⟩, ?_⟩ | fail)
theorem rminus_h : Holds Try.prog 27 rminusS := holds_of mix Try.func27 rminusLow (fun _ => rfl) rminusV

end Go.Proofs.Ytmehmnlhnbeeeaa
