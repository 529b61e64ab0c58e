/- Split: check. -/
import Derived.Test.YtepacknnggnifaaFC
import Derived.Test.YtepacknnggnifaaP7
namespace Go.Proofs.Ytepacknnggnifaa
open Go.RowKit

/-! skiarea/split.check -/
def checkIr : IFn := ⟨40, [.tmp 4, .tmp 5],
  (.seq (.ops [
    ⟨(some 4), .mov, [.const (.int .i64 0)], none⟩,
    ⟨(some 5), .mov, [.const (.int .i64 0)], none⟩] false)
  (.seq (.seq (.ops [
    ⟨(some 10), .mov, [.tmp 1], none⟩,
    ⟨(some 11), .len, [.tmp 10], none⟩,
    ⟨(some 12), .cmp .gtr, [.tmp 11, .const (.int .i64 64)], none⟩] false)
  (.cond (.tmp 12)
    (.seq (.ops [
      ⟨(some 4), .mov, [.const (.int .i64 0)], none⟩,
      ⟨(some 5), .mov, [.const (.int .i64 4)], none⟩] false)
    .ret)
    .skip))
  (.seq (.seq (.ops [
    ⟨(some 13), .mov, [.tmp 0], none⟩,
    ⟨(some 14), .cmp .lss, [.tmp 13, .const (.int .i64 0)], none⟩,
    ⟨(some 15), .mov, [.tmp 14], none⟩,
    ⟨(some 16), .mov, [.tmp 0], (some (15, false))⟩,
    ⟨(some 17), .cmp .gtr, [.tmp 16, .const (.int .i64 1099511627776)], (some (15, false))⟩,
    ⟨(some 18), .pick, [.tmp 15, .const (.bool true), .tmp 17], none⟩] false)
  (.cond (.tmp 18)
    (.seq (.ops [
      ⟨(some 4), .mov, [.const (.int .i64 0)], none⟩,
      ⟨(some 5), .mov, [.const (.int .i64 2)], none⟩] false)
    .ret)
    .skip))
  (.seq (.seq (.ops [
    ⟨(some 19), .mov, [.tmp 1], none⟩,
    ⟨(some 20), .len, [.tmp 19], none⟩,
    ⟨(some 21), .mov, [.const (.int .i64 0)], none⟩] false)
  (.block 0
    (.loop
      (.seq (.ops [
        ⟨(some 22), .cmp .lss, [.tmp 21, .tmp 20], none⟩] false)
      (.seq (.cond (.tmp 22)
        .skip
        (.exit 0))
      (.seq (.block 1
        (.seq (.ops [
          ⟨(some 23), .idx 1, [.tmp 19, .tmp 21], none⟩,
          ⟨(some 24), .load 1 false, [.tmp 23], none⟩,
          ⟨(some 7), .mov, [.tmp 24], none⟩] false)
        (.seq (.ops [
          ⟨(some 25), .mov, [.tmp 7], none⟩,
          ⟨(some 26), .cmp .lss, [.tmp 25, .const (.int .i64 0)], none⟩,
          ⟨(some 27), .mov, [.tmp 26], none⟩,
          ⟨(some 28), .mov, [.tmp 7], (some (27, false))⟩,
          ⟨(some 29), .cmp .gtr, [.tmp 28, .const (.int .i64 1000000000)], (some (27, false))⟩,
          ⟨(some 30), .pick, [.tmp 27, .const (.bool true), .tmp 29], none⟩] false)
        (.cond (.tmp 30)
          (.seq (.ops [
            ⟨(some 4), .mov, [.const (.int .i64 0)], none⟩,
            ⟨(some 5), .mov, [.const (.int .i64 2)], none⟩] false)
          .ret)
          .skip))))
      (.ops [
        ⟨(some 31), .bin .add .i64 false, [.tmp 21, .const (.int .i64 1)], none⟩,
        ⟨(some 21), .mov, [.tmp 31], none⟩] false)))))))
  (.seq (.ops [
    ⟨(some 33), .mov, [.tmp 1], none⟩,
    ⟨(some 34), .call 36, [.tmp 33, .func 37], none⟩,
    ⟨(some 32), .mov, [.tmp 34], none⟩,
    ⟨(some 35), .extract 0, [.tmp 32], none⟩,
    ⟨(some 36), .extract 1, [.tmp 32], none⟩,
    ⟨(some 8), .mov, [.tmp 35], none⟩,
    ⟨(some 9), .mov, [.tmp 36], none⟩] false)
  (.seq (.seq (.ops [
    ⟨(some 37), .mov, [.tmp 8], none⟩,
    ⟨(some 38), .cmp .eql, [.tmp 37, .const (.int .i64 0)], none⟩] false)
  (.cond (.tmp 38)
    (.seq (.ops [
      ⟨(some 4), .mov, [.const (.int .i64 0)], none⟩,
      ⟨(some 5), .mov, [.const (.int .i64 1)], none⟩] false)
    .ret)
    .skip))
  (.seq (.ops [
    ⟨(some 39), .mov, [.tmp 8], none⟩,
    ⟨(some 4), .mov, [.tmp 39], none⟩,
    ⟨(some 5), .mov, [.const (.int .i64 0)], none⟩] false)
  .ret)))))))⟩
theorem checkLow : lowF Try.prog {} Try.f24 = some checkIr := by kernel_rfl
def checkS : Spec := spec (Int × List Int) (fun p => [I p.1, L 1 (p.2.map e1)]) (fun p => p.2.length ≤ 1000000) (fun p => chkT p.1 p.2)
theorem checkV : fnV Try.prog checkIr checkS := by
  intro ⟨(a : Int), (ws : List Int)⟩ hx
  replace hx : ws.length ≤ 1000000 := hx
  have hl : (ws.map e1).length = ws.length := List.length_map ..
  show vc _ _ _ _ ⟨argEnv 0 [I a, L 1 (ws.map e1)], [], 0⟩
  by_cases h8 : 64 < ws.length
  · have hc : chkF a ws = 4 := if_pos h8
    repeat' ((conv => whnf); first | (refine ⟨fun h => ?_, fun h => ?_⟩ <;> try (exfalso; first | omega | exact absurd h (by decide) | exact h rfl)) | fail | fail)
    all_goals (refine ⟨[], rfl, trivial, ?_⟩; show leR _ (chkT a ws); unfold chkT; rw [hc]; exact ⟨rfl, rfl, trivial⟩)
  by_cases ha : a < 0 ∨ 1099511627776 < a
  · have hc : chkF a ws = 2 := by unfold chkF; rw [if_neg h8, if_pos ha]
    repeat' ((conv => whnf); first | (refine ⟨fun h => ?_, fun h => ?_⟩ <;> try (exfalso; first | omega | exact absurd h (by decide) | exact h rfl)) | fail | fail)
    all_goals (refine ⟨[], rfl, trivial, ?_⟩; show leR _ (chkT a ws); unfold chkT; rw [hc]; exact ⟨rfl, rfl, trivial⟩)
  repeat' ((conv => whnf); first | (refine ⟨fun h => ?_, fun h => ?_⟩ <;> try (exfalso; first | omega | exact absurd h (by decide) | exact h rfl)) | fail | fail)
  refine ⟨Nat, fun xq => ⟨[(1, L 1 (ws.map e1)), (19, L 1 (ws.map e1)), (20, I (ws.map e1).length), (21, I xq)], [], 0⟩, fun xq => xq ≤ ws.length ∧ ∀ w ∈ ws.take xq, okW w, fun xq => ws.length - xq, ⟨0, ?_, [], ⟨⟨rfl, rfl⟩, ⟨⟨rfl, rfl⟩, ⟨⟨rfl, rfl⟩, ⟨⟨rfl, rfl⟩, trivial⟩⟩⟩⟩, trivial, rfl, rfl, rfl⟩, ?_⟩
  · (try dsimp only); exact ⟨Nat.zero_le _, by simp⟩
  rintro k hk
  obtain ⟨hk, hn⟩ : k ≤ ws.length ∧ ∀ w ∈ ws.take k, okW w := hk
  (try dsimp only)
  by_cases hkl : k < ws.length
  · obtain ⟨x, hx⟩ := getElem_some hkl
    by_cases hw : okW x
    · have hw' := hw
      unfold okW at hw'
      repeat' ((conv => whnf); first | (refine ⟨k + 1, ⟨?_, by (try dsimp only); omega⟩, [], ⟨⟨rfl, rfl⟩, ⟨⟨rfl, rfl⟩, ⟨⟨rfl, rfl⟩, ⟨⟨rfl, rfl⟩, trivial⟩⟩⟩⟩, trivial, rfl, rfl, rfl⟩; (try dsimp only); exact ⟨by omega, fun y hy => by rw [take_snoc ws k x hx] at hy; rcases List.mem_append.1 hy with h | h; exact hn y h; rw [List.mem_singleton] at h; subst h; exact hw⟩) | (refine ⟨fun h => ?_, fun h => ?_⟩ <;> try (exfalso; first | omega | exact absurd h (by decide) | exact h rfl)) | (refine ⟨by omega, fun r hrr => ?_⟩; obtain rfl := get_row hrr hx) | refine ⟨⟨by omega, by omega⟩, ?_⟩ | fail)
    · have hw' := hw
      unfold okW at hw'
      have hc : chkF a ws = 2 := by unfold chkF; rw [if_neg h8, if_neg ha, if_neg fun h => hw (h x (List.mem_of_getElem? hx))]
      repeat' ((conv => whnf); first | (refine ⟨fun h => ?_, fun h => ?_⟩ <;> try (exfalso; first | omega | exact absurd h (by decide) | exact h rfl)) | (refine ⟨by omega, fun r hrr => ?_⟩; obtain rfl := get_row hrr hx) | fail | fail)
      all_goals (refine ⟨[], rfl, trivial, ?_⟩; show leR _ (chkT a ws); unfold chkT; rw [hc]; exact ⟨rfl, rfl, trivial⟩)
  · rw [take_end hkl] at hn
    obtain ⟨t0, t1⟩ := sum_ok hn
    have hr := runO_ok (s := 0) hn (by omega) (by omega)
    rw [Int.zero_add] at hr
    have hmi : (ws.map fun x : Int => x) = ws := List.map_id' ws
    by_cases h0 : ws.sum = 0
    · have hc : chkF a ws = 1 := by unfold chkF; rw [if_neg h8, if_neg ha, if_pos hn, if_pos h0]
      repeat' ((conv => whnf); first | (refine ⟨fun h => ?_, fun h => ?_⟩ <;> try (exfalso; first | omega | exact absurd h (by decide) | exact h rfl)) | (refine ⟨_, runI_h, ws, hx, leVs_of_eq rfl, .inl rfl, rfl, ?_⟩; show norm (optT (runO 0 (ws.map fun x : Int => x))) _; rw [hmi, hr]) | fail | fail)
      all_goals (refine ⟨[], rfl, trivial, ?_⟩; show leR _ (chkT a ws); unfold chkT; rw [hc]; exact ⟨rfl, rfl, trivial⟩)
    · have hc : chkF a ws = 0 := by unfold chkF; rw [if_neg h8, if_neg ha, if_pos hn, if_neg h0]
      repeat' ((conv => whnf); first | (refine ⟨fun h => ?_, fun h => ?_⟩ <;> try (exfalso; first | omega | exact absurd h (by decide) | exact h rfl)) | (refine ⟨_, runI_h, ws, hx, leVs_of_eq rfl, .inl rfl, rfl, ?_⟩; show norm (optT (runO 0 (ws.map fun x : Int => x))) _; rw [hmi, hr]) | fail | fail)
      all_goals (refine ⟨[], rfl, trivial, ?_⟩; show leR _ (chkT a ws); unfold chkT; rw [hc, if_pos rfl]; exact ⟨rfl, rfl, trivial⟩)
theorem check_h : Holds Try.prog 24 checkS := holds_of mix Try.func24 checkLow (fun _ => rfl) checkV

end Go.Proofs.Ytepacknnggnifaa
