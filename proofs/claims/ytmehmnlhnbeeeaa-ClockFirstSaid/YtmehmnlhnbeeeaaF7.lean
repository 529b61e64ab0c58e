/- The clock: the reference's Merge and Length; what the laws call. -/
import Derived.Test.YtmehmnlhnbeeeaaF6
namespace Go.Proofs.Ytmehmnlhnbeeeaa
open Go.RowKit

/-! skiarea/skiarearef02.Merge -/
def rmergeIr : IFn := ⟨5, [.tmp 2],
  (.seq (.ops [
    ⟨(some 2), .mov, [.const (.slice none 0 0)], none⟩] false)
  (.seq (.ops [
    ⟨(some 3), .mov, [.tmp 0], none⟩,
    ⟨(some 4), .call 27, [.tmp 3, .const (.slice none 0 0)], none⟩,
    ⟨(some 2), .mov, [.tmp 4], none⟩] false)
  .ret))⟩
theorem rmergeLow : lowF Try.prog {} Try.f30 = some rmergeIr := by kernel_rfl
def rmergeS : Spec := spec (List Ivl) (fun l => [L 2 (l.map encV)]) (fun l => l.length ≤ 1000000) (fun l => L 2 ((mergeF l).map encV))
theorem rmergeV : fnV Try.prog rmergeIr rmergeS := by
  intro (l : List Ivl) hx
  replace hx : l.length ≤ 1000000 := hx
  show vc _ _ _ ⟨argEnv 0 [L 2 (l.map encV)], [], 0⟩
  repeat' ((conv => whnf); first | (refine ⟨_, rminus_h, (l, ([] : List Ivl)), ⟨hx, by show (0 : Nat) ≤ _; decide⟩, ⟨by first | exact leV_refl _ | rfl, by first | exact leV_refl _ | rfl, trivial⟩, .inl rfl, rfl, ?_⟩; show norm (L 2 ((minusF l []).map encV)) _; rw [merge_minus]) | fail)
  conv => whnf
  refine ⟨[], rfl, trivial, ?_⟩
  show leV (L 2 ((mergeF l).map encV)) (L 2 ((mergeF l).map encV))
  exact leV_refl _
theorem rmerge_h : Holds Try.prog 30 rmergeS := holds_of mix Try.func30 rmergeLow (fun _ => rfl) rmergeV

/-! skiarea/skiarearef02.Length -/
def rlengthIr : IFn := ⟨28, [.tmp 2],
  (.seq (.ops [
    ⟨(some 2), .mov, [.const (.int .i64 0)], none⟩] false)
  (.seq (.ops [
    ⟨(some 6), .mov, [.tmp 0], none⟩,
    ⟨(some 7), .call 30, [.tmp 6], none⟩,
    ⟨(some 3), .mov, [.tmp 7], none⟩] false)
  (.seq (.ops [
    ⟨(some 4), .mov, [.const (.int .i64 0)], none⟩] false)
  (.seq (.seq (.ops [
    ⟨(some 5), .mov, [.const (.int .i64 0)], none⟩] false)
  (.block 0
    (.loop
      (.seq (.seq (.ops [
        ⟨(some 8), .mov, [.tmp 5], none⟩,
        ⟨(some 9), .mov, [.tmp 3], none⟩,
        ⟨(some 10), .len, [.tmp 9], none⟩,
        ⟨(some 11), .cmp .lss, [.tmp 8, .tmp 10], none⟩] false)
      (.cond (.tmp 11)
        .skip
        (.exit 0)))
      (.seq (.block 1
        (.ops [
          ⟨(some 14), .mov, [.tmp 4], none⟩,
          ⟨(some 15), .mov, [.tmp 3], none⟩,
          ⟨(some 16), .mov, [.tmp 5], none⟩,
          ⟨(some 17), .idx 2, [.tmp 15, .tmp 16], none⟩,
          ⟨(some 18), .faddr 1, [.tmp 17], none⟩,
          ⟨(some 19), .load 1 false, [.tmp 18], none⟩,
          ⟨(some 20), .bin .add .i64 false, [.tmp 14, .tmp 19], none⟩,
          ⟨(some 21), .mov, [.tmp 3], none⟩,
          ⟨(some 22), .mov, [.tmp 5], none⟩,
          ⟨(some 23), .idx 2, [.tmp 21, .tmp 22], none⟩,
          ⟨(some 24), .faddr 0, [.tmp 23], none⟩,
          ⟨(some 25), .load 1 false, [.tmp 24], none⟩,
          ⟨(some 26), .bin .sub .i64 false, [.tmp 20, .tmp 25], none⟩,
          ⟨(some 4), .mov, [.tmp 26], none⟩] true))
      (.ops [
        ⟨(some 12), .mov, [.tmp 5], none⟩,
        ⟨(some 13), .bin .add .i64 false, [.tmp 12, .const (.int .i64 1)], none⟩,
        ⟨(some 5), .mov, [.tmp 13], none⟩] false))))))
  (.seq (.ops [
    ⟨(some 27), .mov, [.tmp 4], none⟩,
    ⟨(some 2), .mov, [.tmp 27], none⟩] false)
  .ret)))))⟩
theorem rlengthLow : lowF Try.prog {} Try.f33 = some rlengthIr := by kernel_rfl
def rlengthS : Spec := spec (List Ivl) (fun l => [L 2 (l.map encV)]) (fun l => l.length ≤ 1000000) (fun l => I (lenF l))
theorem rlengthV : fnV Try.prog rlengthIr rlengthS := by
  intro (l : List Ivl) hx
  replace hx : l.length ≤ 1000000 := hx
  show vc _ _ _ ⟨argEnv 0 [L 2 (l.map encV)], [], 0⟩
  have hp := (merge_spec l).1
  have hsm := hp.sum
  repeat' ((conv => whnf); first | (refine ⟨_, rmerge_h, l, hx, leVs_of_eq rfl, .inl rfl, rfl, ?_⟩; show norm (L 2 ((mergeF l).map encV)) _) | fail)
  have hln : lenF l = sumL (mergeF l) := rfl
  generalize mergeF l = m at *
  have hl : (m.map encV).length = m.length := List.length_map ..
  conv => whnf
  refine ⟨Nat × Int, fun xq => ⟨[(3, L 2 (m.map encV)), (4, I xq.2), (5, I xq.1)], [], 0⟩, fun xq => xq.1 ≤ m.length ∧ xq.2 = sumL (m.take xq.1), fun xq => m.length - xq.1, ⟨(0, _), ?_, [], ⟨⟨rfl, rfl⟩, ⟨⟨rfl, rfl⟩, ⟨⟨rfl, rfl⟩, trivial⟩⟩⟩, trivial, rfl, rfl⟩, ?_⟩
  · (try dsimp only); exact ⟨Nat.zero_le _, rfl⟩
  rintro ⟨k, n⟩ hk
  obtain ⟨hk, hn⟩ : k ≤ m.length ∧ n = sumL (m.take k) := hk
  (try dsimp only)
  have hb := (hp.take k).sum
  by_cases hkl : k < m.length
  · obtain ⟨x, hx⟩ := getElem_some hkl
    have hs := sumL_step hx
    have hb2 := (hp.take (k + 1)).sum
    have hfx := hp.2 x (List.mem_of_getElem? hx)
    unfold full at hfx
    repeat' ((conv => whnf); first | (refine ⟨(k + 1, _), ⟨?_, by (try dsimp only); omega⟩, [], ⟨⟨rfl, rfl⟩, ⟨⟨rfl, rfl⟩, ⟨⟨rfl, rfl⟩, trivial⟩⟩⟩, trivial, rfl, rfl⟩; (try dsimp only); exact ⟨by omega, by omega⟩) | (refine ⟨fun h => ?_, fun h => ?_⟩ <;> try (exfalso; first | omega | exact absurd h (by decide) | exact h rfl)) | (refine ⟨by omega, fun r hrr => ?_⟩; obtain rfl := get_row hrr hx) | refine ⟨⟨by omega, by omega⟩, ?_⟩ | fail)
  · rw [take_end hkl] at hn
    repeat' ((conv => whnf); first | (refine ⟨fun h => ?_, fun h => ?_⟩ <;> try (exfalso; first | omega | exact absurd h (by decide) | exact h rfl)) | refine ⟨[], rfl, trivial, congrArg (CV.int .i64) ?_⟩ | fail)
    all_goals rw [hn, hln]
theorem rlength_h : Holds Try.prog 33 rlengthS := holds_of mix Try.func33 rlengthLow (fun _ => rfl) rlengthV

/-! skiarea/skiarealaw02.few -/
def fewIr : IFn := ⟨6, [.tmp 2],
  (.seq (.ops [
    ⟨(some 2), .mov, [.const (.bool false)], none⟩] false)
  (.seq (.ops [
    ⟨(some 3), .mov, [.tmp 0], none⟩,
    ⟨(some 4), .len, [.tmp 3], none⟩,
    ⟨(some 5), .cmp .leq, [.tmp 4, .const (.int .i64 60)], none⟩,
    ⟨(some 2), .mov, [.tmp 5], none⟩] false)
  .ret))⟩
theorem fewLow : lowF Try.prog {} Try.f24 = some fewIr := by kernel_rfl
def fewS : Spec := spec (List Ivl) (fun l => [L 2 (l.map encV)]) (fun _ => True) (fun l => B (decide (l.length ≤ 60)))
theorem fewV : fnV Try.prog fewIr fewS := by
  intro (l : List Ivl) hx
  show vc _ _ _ ⟨argEnv 0 [L 2 (l.map encV)], [], 0⟩
  have hl : (l.map encV).length = l.length := List.length_map ..
  repeat' ((conv => whnf); first | (refine ⟨fun h => ?_, fun h => ?_⟩ <;> try (exfalso; first | omega | exact absurd h (by decide) | exact h rfl)) | refine ⟨[], rfl, trivial, congrArg CV.bool ?_⟩ | fail)
  · exact (decide_eq_true (by omega)).symm
  · exact (decide_eq_false (by omega)).symm
theorem few_h : Holds Try.prog 24 fewS := holds_of mix Try.func24 fewLow (fun _ => rfl) fewV

/-! skiarea/skiarealaw02.plain -/
def plainlIr : IFn := ⟨55, [.tmp 2],
  (.seq (.ops [
    ⟨(some 2), .mov, [.const (.bool false)], none⟩] false)
  (.seq (.seq (.ops [
    ⟨(some 3), .mov, [.const (.int .i64 0)], none⟩] false)
  (.block 0
    (.loop
      (.seq (.seq (.ops [
        ⟨(some 4), .mov, [.tmp 3], none⟩,
        ⟨(some 5), .mov, [.tmp 0], none⟩,
        ⟨(some 6), .len, [.tmp 5], none⟩,
        ⟨(some 7), .cmp .lss, [.tmp 4, .tmp 6], none⟩] false)
      (.cond (.tmp 7)
        .skip
        (.exit 0)))
      (.seq (.block 1
        (.seq (.ops [
          ⟨(some 10), .mov, [.tmp 0], none⟩,
          ⟨(some 11), .mov, [.tmp 3], none⟩,
          ⟨(some 12), .idx 2, [.tmp 10, .tmp 11], none⟩,
          ⟨(some 13), .faddr 0, [.tmp 12], none⟩,
          ⟨(some 14), .load 1 false, [.tmp 13], none⟩,
          ⟨(some 15), .cmp .lss, [.tmp 14, .const (.int .i64 0)], none⟩,
          ⟨(some 16), .mov, [.tmp 15], none⟩,
          ⟨(some 17), .mov, [.tmp 0], (some (16, false))⟩,
          ⟨(some 18), .mov, [.tmp 3], (some (16, false))⟩,
          ⟨(some 19), .idx 2, [.tmp 17, .tmp 18], (some (16, false))⟩,
          ⟨(some 20), .faddr 0, [.tmp 19], (some (16, false))⟩,
          ⟨(some 21), .load 1 false, [.tmp 20], (some (16, false))⟩,
          ⟨(some 22), .mov, [.tmp 0], (some (16, false))⟩,
          ⟨(some 23), .mov, [.tmp 3], (some (16, false))⟩,
          ⟨(some 24), .idx 2, [.tmp 22, .tmp 23], (some (16, false))⟩,
          ⟨(some 25), .faddr 1, [.tmp 24], (some (16, false))⟩,
          ⟨(some 26), .load 1 false, [.tmp 25], (some (16, false))⟩,
          ⟨(some 27), .cmp .geq, [.tmp 21, .tmp 26], (some (16, false))⟩,
          ⟨(some 28), .pick, [.tmp 16, .const (.bool true), .tmp 27], none⟩,
          ⟨(some 29), .mov, [.tmp 28], none⟩,
          ⟨(some 30), .mov, [.tmp 0], (some (29, false))⟩,
          ⟨(some 31), .mov, [.tmp 3], (some (29, false))⟩,
          ⟨(some 32), .idx 2, [.tmp 30, .tmp 31], (some (29, false))⟩,
          ⟨(some 33), .faddr 1, [.tmp 32], (some (29, false))⟩,
          ⟨(some 34), .load 1 false, [.tmp 33], (some (29, false))⟩,
          ⟨(some 35), .cmp .gtr, [.tmp 34, .const (.int .i64 20000000)], (some (29, false))⟩,
          ⟨(some 36), .pick, [.tmp 29, .const (.bool true), .tmp 35], none⟩,
          ⟨(some 37), .mov, [.tmp 36], none⟩,
          ⟨(some 38), .mov, [.tmp 3], (some (37, false))⟩,
          ⟨(some 39), .cmp .gtr, [.tmp 38, .const (.int .i64 0)], (some (37, false))⟩,
          ⟨(some 40), .mov, [.tmp 39], (some (37, false))⟩,
          ⟨(some 41), .mov, [.tmp 0], (some (40, true))⟩,
          ⟨(some 42), .mov, [.tmp 3], (some (40, true))⟩,
          ⟨(some 43), .idx 2, [.tmp 41, .tmp 42], (some (40, true))⟩,
          ⟨(some 44), .faddr 0, [.tmp 43], (some (40, true))⟩,
          ⟨(some 45), .load 1 false, [.tmp 44], (some (40, true))⟩,
          ⟨(some 46), .mov, [.tmp 0], (some (40, true))⟩,
          ⟨(some 47), .mov, [.tmp 3], (some (40, true))⟩,
          ⟨(some 48), .bin .sub .i64 false, [.tmp 47, .const (.int .i64 1)], (some (40, true))⟩,
          ⟨(some 49), .idx 2, [.tmp 46, .tmp 48], (some (40, true))⟩,
          ⟨(some 50), .faddr 1, [.tmp 49], (some (40, true))⟩,
          ⟨(some 51), .load 1 false, [.tmp 50], (some (40, true))⟩,
          ⟨(some 52), .cmp .leq, [.tmp 45, .tmp 51], (some (40, true))⟩,
          ⟨(some 53), .pick, [.tmp 40, .tmp 52, .const (.bool false)], (some (37, false))⟩,
          ⟨(some 54), .pick, [.tmp 37, .const (.bool true), .tmp 53], none⟩] true)
        (.cond (.tmp 54)
          (.seq (.ops [
            ⟨(some 2), .mov, [.const (.bool false)], none⟩] false)
          .ret)
          .skip)))
      (.ops [
        ⟨(some 8), .mov, [.tmp 3], none⟩,
        ⟨(some 9), .bin .add .i64 false, [.tmp 8, .const (.int .i64 1)], none⟩,
        ⟨(some 3), .mov, [.tmp 9], none⟩] false))))))
  (.seq (.ops [
    ⟨(some 2), .mov, [.const (.bool true)], none⟩] false)
  .ret)))⟩
theorem plainlLow : lowF Try.prog {} Try.f34 = some plainlIr := by kernel_rfl
def plainlS : Spec := spec (List Ivl) (fun l => [L 2 (l.map encV)]) (fun l => Plain l) (fun _ => B true)
theorem plainlV : fnV Try.prog plainlIr plainlS := by
  intro (l : List Ivl) (hp : Plain l)
  show vc _ _ _ ⟨argEnv 0 [L 2 (l.map encV)], [], 0⟩
  have hl : (l.map encV).length = l.length := List.length_map ..
  have hsm := hp.sum
  conv => whnf
  refine ⟨Nat, fun xq => ⟨[(0, L 2 (l.map encV)), (3, I xq)], [], 0⟩, fun xq => xq ≤ l.length, fun xq => l.length - xq, ⟨0, ?_, [], ⟨⟨rfl, rfl⟩, ⟨⟨rfl, rfl⟩, trivial⟩⟩, trivial, rfl, rfl⟩, ?_⟩
  · (try dsimp only); exact Nat.zero_le _
  rintro k hk
  obtain hk : k ≤ l.length := hk
  (try dsimp only)
  by_cases hkl : k < l.length
  · obtain ⟨x, hx⟩ := getElem_some hkl
    have hf := hp.2 x (List.mem_of_getElem? hx)
    unfold full at hf
    by_cases hk0 : 0 < k
    · obtain ⟨y, hy⟩ := getElem_some (show k - 1 < l.length by omega)
      have hlt : y.to < x.frm := by
        have := List.pairwise_iff_getElem.1 hp.1 (k - 1) k (by omega) hkl (by omega)
        rw [(List.getElem?_eq_some_iff.1 hy).2, (List.getElem?_eq_some_iff.1 hx).2] at this
        exact this
      repeat' ((conv => whnf); first | (refine ⟨k + 1, ⟨?_, by (try dsimp only); omega⟩, [], ⟨⟨rfl, rfl⟩, ⟨⟨rfl, rfl⟩, trivial⟩⟩, trivial, rfl, rfl⟩; (try dsimp only); omega) | (refine ⟨fun h => ?_, fun h => ?_⟩ <;> try (exfalso; first | omega | exact absurd h (by decide) | exact h rfl)) | refine idx_ati (j := k) rfl hx ?_ | refine idx_ati (j := k - 1) (by omega) hy ?_ | refine ⟨⟨by omega, by omega⟩, ?_⟩ | fail)
    · repeat' ((conv => whnf); first | (refine ⟨k + 1, ⟨?_, by (try dsimp only); omega⟩, [], ⟨⟨rfl, rfl⟩, ⟨⟨rfl, rfl⟩, trivial⟩⟩, trivial, rfl, rfl⟩; (try dsimp only); omega) | (refine ⟨fun h => ?_, fun h => ?_⟩ <;> try (exfalso; first | omega | exact absurd h (by decide) | exact h rfl)) | (refine ⟨by omega, fun r hrr => ?_⟩; obtain rfl := get_row hrr hx) | refine ⟨⟨by omega, by omega⟩, ?_⟩ | fail)
  · repeat' ((conv => whnf); first | (refine ⟨fun h => ?_, fun h => ?_⟩ <;> try (exfalso; first | omega | exact absurd h (by decide) | exact h rfl)) | exact ⟨[], rfl, trivial, rfl⟩ | fail)
theorem plainl_h : Holds Try.prog 34 plainlS := holds_of mix Try.func34 plainlLow (fun _ => rfl) plainlV

end Go.Proofs.Ytmehmnlhnbeeeaa
