/- Split: Fair. -/
import Derived.Test.YtepacknnggnifaaFI
import Derived.Test.YtepacknnggnifaaFD
import Derived.Test.YtepacknnggnifaaFB
namespace Go.Proofs.Ytepacknnggnifaa
open Go.RowKit
theorem good_of {a : Int} {ws : List Int} (h : chkF a ws = 0) : Good a ws := by
  unfold chkF at h
  split at h
  · omega
  split at h
  · omega
  split at h
  · rename_i h1 h2 h3
    split at h
    · omega
    rename_i h4
    obtain ⟨t0, t1⟩ := sum_ok h3
    exact ⟨by omega, by omega, by omega, h3, by omega, by omega⟩
  · omega
theorem Good.chk {a : Int} {ws : List Int} (g : Good a ws) : chkF a ws = 0 := by
  obtain ⟨h1, h2, h3, h4, h5, h6⟩ := g
  have h4' : ∀ w ∈ ws, okW w := h4
  unfold chkF
  rw [if_neg (by omega), if_neg (by omega), if_pos h4', if_neg (by omega)]
theorem not_fair {a : Int} {ws ps : List Int} {k : Nat} {w p : Int} (hw : ws[k]? = some w) (hp : ps[k]? = some p) (h : ¬ okP a ws.sum w p) : ¬ fairP a ws ps := fun f => h (f.2.1 _ (List.mem_of_getElem? (zip_get hw hp)))
theorem fair_step {a : Int} {ws ps : List Int} {k : Nat} {w p : Int} (hw : ws[k]? = some w) (hp : ps[k]? = some p) (h : okP a ws.sum w p) (hh : ∀ x ∈ (ws.zip ps).take k, okP a ws.sum x.1 x.2) : ∀ x ∈ (ws.zip ps).take (k + 1), okP a ws.sum x.1 x.2 := by
  intro x hx
  rw [take_snoc _ k _ (zip_get hw hp)] at hx
  rcases List.mem_append.1 hx with hx | hx
  · exact hh x hx
  · rw [List.mem_singleton] at hx; subst hx; exact h

/-! skiarea/split.Fair -/
def fairIr : IFn := ⟨72, [.tmp 6],
  (.seq (.ops [
    ⟨(some 6), .mov, [.const (.bool false)], none⟩] false)
  (.seq (.ops [
    ⟨(some 15), .mov, [.tmp 0], none⟩,
    ⟨(some 16), .mov, [.tmp 1], none⟩,
    ⟨(some 17), .call 24, [.tmp 15, .tmp 16], none⟩,
    ⟨(some 14), .mov, [.tmp 17], none⟩,
    ⟨(some 18), .extract 0, [.tmp 14], none⟩,
    ⟨(some 19), .extract 1, [.tmp 14], none⟩,
    ⟨(some 7), .mov, [.tmp 18], none⟩,
    ⟨(some 8), .mov, [.tmp 19], none⟩] false)
  (.seq (.seq (.ops [
    ⟨(some 20), .mov, [.tmp 8], none⟩,
    ⟨(some 21), .cmp .neq, [.tmp 20, .const (.int .i64 0)], none⟩,
    ⟨(some 22), .mov, [.tmp 21], none⟩,
    ⟨(some 23), .mov, [.tmp 2], (some (22, false))⟩,
    ⟨(some 24), .len, [.tmp 23], (some (22, false))⟩,
    ⟨(some 25), .mov, [.tmp 1], (some (22, false))⟩,
    ⟨(some 26), .len, [.tmp 25], (some (22, false))⟩,
    ⟨(some 27), .cmp .neq, [.tmp 24, .tmp 26], (some (22, false))⟩,
    ⟨(some 28), .pick, [.tmp 22, .const (.bool true), .tmp 27], none⟩] false)
  (.cond (.tmp 28)
    (.seq (.ops [
      ⟨(some 6), .mov, [.const (.bool false)], none⟩] false)
    .ret)
    .skip))
  (.seq (.ops [
    ⟨(some 9), .mov, [.const (.int .i64 0)], none⟩] false)
  (.seq (.seq (.ops [
    ⟨(some 29), .mov, [.tmp 1], none⟩,
    ⟨(some 30), .len, [.tmp 29], none⟩,
    ⟨(some 31), .mov, [.const (.int .i64 0)], none⟩] false)
  (.block 0
    (.loop
      (.seq (.ops [
        ⟨(some 32), .cmp .lss, [.tmp 31, .tmp 30], none⟩] false)
      (.seq (.cond (.tmp 32)
        .skip
        (.exit 0))
      (.seq (.block 1
        (.seq (.ops [
          ⟨(some 33), .mov, [.tmp 31], none⟩,
          ⟨(some 34), .idx 1, [.tmp 29, .tmp 31], none⟩,
          ⟨(some 35), .load 1 false, [.tmp 34], none⟩,
          ⟨(some 10), .mov, [.tmp 33], none⟩,
          ⟨(some 11), .mov, [.tmp 35], none⟩] false)
        (.seq (.ops [
          ⟨(some 37), .mov, [.tmp 0], none⟩,
          ⟨(some 38), .mov, [.tmp 11], none⟩,
          ⟨(some 39), .mov, [.tmp 7], none⟩,
          ⟨(some 40), .call 25, [.tmp 37, .tmp 38, .tmp 39], none⟩,
          ⟨(some 36), .mov, [.tmp 40], none⟩,
          ⟨(some 41), .extract 0, [.tmp 36], none⟩,
          ⟨(some 42), .extract 1, [.tmp 36], none⟩,
          ⟨(some 12), .mov, [.tmp 41], none⟩,
          ⟨(some 13), .mov, [.tmp 42], none⟩] false)
        (.seq (.seq (.ops [
          ⟨(some 43), .mov, [.tmp 2], none⟩,
          ⟨(some 44), .mov, [.tmp 10], none⟩,
          ⟨(some 45), .idx 1, [.tmp 43, .tmp 44], none⟩,
          ⟨(some 46), .load 1 false, [.tmp 45], none⟩,
          ⟨(some 47), .mov, [.tmp 12], none⟩,
          ⟨(some 48), .cmp .neq, [.tmp 46, .tmp 47], none⟩,
          ⟨(some 49), .mov, [.tmp 48], none⟩,
          ⟨(some 50), .mov, [.tmp 13], (some (49, true))⟩,
          ⟨(some 51), .cmp .eql, [.tmp 50, .const (.int .i64 0)], (some (49, true))⟩,
          ⟨(some 52), .mov, [.tmp 51], (some (49, true))⟩,
          ⟨(some 53), .mov, [.tmp 2], (some (52, false))⟩,
          ⟨(some 54), .mov, [.tmp 10], (some (52, false))⟩,
          ⟨(some 55), .idx 1, [.tmp 53, .tmp 54], (some (52, false))⟩,
          ⟨(some 56), .load 1 false, [.tmp 55], (some (52, false))⟩,
          ⟨(some 57), .mov, [.tmp 12], (some (52, false))⟩,
          ⟨(some 58), .bin .add .i64 false, [.tmp 57, .const (.int .i64 1)], (some (52, false))⟩,
          ⟨(some 59), .cmp .neq, [.tmp 56, .tmp 58], (some (52, false))⟩,
          ⟨(some 60), .pick, [.tmp 52, .const (.bool true), .tmp 59], (some (49, true))⟩,
          ⟨(some 61), .pick, [.tmp 49, .tmp 60, .const (.bool false)], none⟩] false)
        (.cond (.tmp 61)
          (.seq (.ops [
            ⟨(some 6), .mov, [.const (.bool false)], none⟩] false)
          .ret)
          .skip))
        (.ops [
          ⟨(some 62), .mov, [.tmp 9], none⟩,
          ⟨(some 63), .mov, [.tmp 2], none⟩,
          ⟨(some 64), .mov, [.tmp 10], none⟩,
          ⟨(some 65), .idx 1, [.tmp 63, .tmp 64], none⟩,
          ⟨(some 66), .load 1 false, [.tmp 65], none⟩,
          ⟨(some 67), .bin .add .i64 false, [.tmp 62, .tmp 66], none⟩,
          ⟨(some 9), .mov, [.tmp 67], none⟩] false)))))
      (.ops [
        ⟨(some 68), .bin .add .i64 false, [.tmp 31, .const (.int .i64 1)], none⟩,
        ⟨(some 31), .mov, [.tmp 68], none⟩] false)))))))
  (.seq (.ops [
    ⟨(some 69), .mov, [.tmp 9], none⟩,
    ⟨(some 70), .mov, [.tmp 0], none⟩,
    ⟨(some 71), .cmp .eql, [.tmp 69, .tmp 70], none⟩,
    ⟨(some 6), .mov, [.tmp 71], none⟩] false)
  .ret))))))⟩
theorem fairLow : lowF Try.prog {} Try.f16 = some fairIr := by kernel_rfl
def fairS : Spec := spec (Int × List Int × List Int) (fun p => [I p.1, L 1 (p.2.1.map e1), L 1 (p.2.2.map e1)]) (fun p => p.2.1.length ≤ 1000000 ∧ p.2.2.length ≤ 1000000) (fun p => B (decide (chkF p.1 p.2.1 = 0 ∧ fairP p.1 p.2.1 p.2.2)))
theorem fairV : fnV Try.prog fairIr fairS := by
  intro ⟨(a : Int), (ws : List Int), (ps : List Int)⟩ hx
  obtain ⟨hw0, hp0⟩ : ws.length ≤ 1000000 ∧ ps.length ≤ 1000000 := hx
  have hl : (ws.map e1).length = ws.length := List.length_map ..
  have hl2 : (ps.map e1).length = ps.length := List.length_map ..
  show vc _ _ _ _ ⟨argEnv 0 [I a, L 1 (ws.map e1), L 1 (ps.map e1)], [], 0⟩
  by_cases hc : chkF a ws = 0
  · have hct : chkT a ws = .tup [I ws.sum, I 0] := by unfold chkT; rw [hc, if_pos rfl]
    have g := good_of hc
    by_cases hle : ps.length = ws.length
    · repeat' ((conv => whnf); first | (refine ⟨fun h => ?_, fun h => ?_⟩ <;> try (exfalso; first | omega | exact absurd h (by decide) | exact h rfl)) | (refine ⟨_, check_h, (a, ws), hw0, leVs_of_eq rfl, .inl rfl, rfl, ?_⟩; show norm (chkT a ws) _; rw [hct]) | fail | fail)
      refine ⟨Nat × Int, fun xq => ⟨[(0, I a), (1, L 1 (ws.map e1)), (2, L 1 (ps.map e1)), (7, I ws.sum), (9, I xq.2), (29, L 1 (ws.map e1)), (30, I (ws.map e1).length), (31, I xq.1)], [], 0⟩, fun xq => (xq.1 ≤ ws.length ∧ ∀ x ∈ (ws.zip ps).take xq.1, okP a ws.sum x.1 x.2) ∧ xq.2 = (ps.take xq.1).sum ∧ -(1099511627777 * (xq.1 : Int)) ≤ xq.2 ∧ xq.2 ≤ 1099511627777 * (xq.1 : Int), fun xq => ws.length - xq.1, ⟨(0, 0), ?_, [], ⟨⟨rfl, rfl⟩, ⟨⟨rfl, rfl⟩, ⟨⟨rfl, rfl⟩, ⟨⟨rfl, rfl⟩, ⟨⟨rfl, rfl⟩, ⟨⟨rfl, rfl⟩, ⟨⟨rfl, rfl⟩, ⟨⟨rfl, rfl⟩, trivial⟩⟩⟩⟩⟩⟩⟩⟩, trivial, rfl, rfl, rfl⟩, ?_⟩
      · (try dsimp only); exact ⟨⟨Nat.zero_le _, by simp⟩, rfl, by omega, by omega⟩
      rintro ⟨k, n⟩ hk
      obtain ⟨⟨hk, hok⟩, hn, n0, n1⟩ : (k ≤ ws.length ∧ ∀ x ∈ (ws.zip ps).take k, okP a ws.sum x.1 x.2) ∧ n = (ps.take k).sum ∧ -(1099511627777 * (k : Int)) ≤ n ∧ n ≤ 1099511627777 * (k : Int) := hk
      (try dsimp only)
      by_cases hkl : k < ws.length
      ·
        obtain ⟨w, hw⟩ := getElem_some hkl
        obtain ⟨p, hp⟩ := getElem_some (xs := ps) (k := k) (by omega)
        obtain ⟨w0, w1⟩ := g.wOk w (List.mem_of_getElem? hw)
        have hws := le_sum (fun w hw => (g.wOk w hw).1) w (List.mem_of_getElem? hw)
        have hs0 := g.s0
        have hs1 := g.s1
        have ha0 := g.a0
        have ha1 := g.a1
        obtain ⟨q0, q1⟩ := g.q (List.mem_of_getElem? hw)
        have hokd : okP a ws.sum w p = (p = a * w / ws.sum ∨ (a * w % ws.sum ≠ 0 ∧ p = a * w / ws.sum + 1)) := rfl
        by_cases hop : okP a ws.sum w p
        · have hop' := hop
          rw [hokd] at hop'
          repeat' ((conv => whnf); first | (refine ⟨fun h => ?_, fun h => ?_⟩ <;> try (exfalso; first | omega | exact absurd h (by decide) | exact h rfl)) | (refine ⟨by omega, fun r hrr => ?_⟩; first | ((have hre : r = e1 w := by (first | exact get_row hrr hw | fail)); subst hre) | ((have hre : r = e1 p := by (first | exact get_row hrr hp | fail)); subst hre)) | fail | (refine ⟨_, exact_h, (a, w, ws.sum), (by show (0 ≤ a ∧ a ≤ 1099511627776) ∧ (0 ≤ w ∧ w ≤ 1000000000) ∧ (1 ≤ ws.sum ∧ ws.sum ≤ 64000000000) ∧ w ≤ ws.sum; omega), leVs_of_eq rfl, .inl rfl, rfl, ?_⟩; show norm (.tup [I (a * w / ws.sum), I (a * w % ws.sum)]) _) | (refine ⟨(k + 1, _), ⟨?_, by (try dsimp only); omega⟩, [], ⟨⟨rfl, rfl⟩, ⟨⟨rfl, rfl⟩, ⟨⟨rfl, rfl⟩, ⟨⟨rfl, rfl⟩, ⟨⟨rfl, rfl⟩, ⟨⟨rfl, rfl⟩, ⟨⟨rfl, rfl⟩, ⟨⟨rfl, rfl⟩, trivial⟩⟩⟩⟩⟩⟩⟩⟩, trivial, rfl, rfl, rfl⟩; (try dsimp only); exact ⟨⟨by omega, fair_step hw hp hop hok⟩, by rw [sum_take hp, hn], by omega, by omega⟩) | refine ⟨⟨by omega, by omega⟩, ?_⟩ | fail)
        · have hop' := hop
          rw [hokd] at hop'
          repeat' ((conv => whnf); first | (refine ⟨fun h => ?_, fun h => ?_⟩ <;> try (exfalso; first | omega | exact absurd h (by decide) | exact h rfl)) | (refine ⟨by omega, fun r hrr => ?_⟩; first | ((have hre : r = e1 w := by (first | exact get_row hrr hw | fail)); subst hre) | ((have hre : r = e1 p := by (first | exact get_row hrr hp | fail)); subst hre)) | fail | (refine ⟨_, exact_h, (a, w, ws.sum), (by show (0 ≤ a ∧ a ≤ 1099511627776) ∧ (0 ≤ w ∧ w ≤ 1000000000) ∧ (1 ≤ ws.sum ∧ ws.sum ≤ 64000000000) ∧ w ≤ ws.sum; omega), leVs_of_eq rfl, .inl rfl, rfl, ?_⟩; show norm (.tup [I (a * w / ws.sum), I (a * w % ws.sum)]) _) | refine ⟨⟨by omega, by omega⟩, ?_⟩ | fail | fail)
          all_goals (refine ⟨[], rfl, trivial, congrArg CV.bool ?_⟩; exact (decide_eq_false fun h => not_fair hw hp hop h.2).symm)
      · rw [zip_end hle hkl] at hok
        rw [take_end (by omega)] at hn
        by_cases hna : n = a
        · repeat' ((conv => whnf); first | (refine ⟨fun h => ?_, fun h => ?_⟩ <;> try (exfalso; first | omega | exact absurd h (by decide) | exact h rfl)) | fail | fail)
          all_goals (refine ⟨[], rfl, trivial, congrArg CV.bool ?_⟩; exact (decide_eq_true ⟨hc, hle, hok, hn.symm.trans hna⟩).symm)
        · repeat' ((conv => whnf); first | (refine ⟨fun h => ?_, fun h => ?_⟩ <;> try (exfalso; first | omega | exact absurd h (by decide) | exact h rfl)) | fail | fail)
          all_goals (refine ⟨[], rfl, trivial, congrArg CV.bool ?_⟩; exact (decide_eq_false fun h => hna (by rw [hn]; exact h.2.2.2)).symm)
    · repeat' ((conv => whnf); first | (refine ⟨fun h => ?_, fun h => ?_⟩ <;> try (exfalso; first | omega | exact absurd h (by decide) | exact h rfl)) | (refine ⟨_, check_h, (a, ws), hw0, leVs_of_eq rfl, .inl rfl, rfl, ?_⟩; show norm (chkT a ws) _; rw [hct]) | fail | fail)
      all_goals (refine ⟨[], rfl, trivial, congrArg CV.bool ?_⟩; exact (decide_eq_false fun h => hle h.2.1).symm)
  · have hct : chkT a ws = .tup [I 0, I (chkF a ws)] := by unfold chkT; rw [if_neg hc]
    repeat' ((conv => whnf); first | (refine ⟨fun h => ?_, fun h => ?_⟩ <;> try (exfalso; first | omega | exact absurd h (by decide) | exact h rfl)) | (refine ⟨_, check_h, (a, ws), hw0, leVs_of_eq rfl, .inl rfl, rfl, ?_⟩; show norm (chkT a ws) _; rw [hct]) | fail | fail)
    all_goals (refine ⟨[], rfl, trivial, congrArg CV.bool ?_⟩; exact (decide_eq_false fun h => hc h.1).symm)
theorem fair_h : Holds Try.prog 16 fairS := holds_of mix Try.func16 fairLow (fun _ => rfl) fairV

/-! skiarea/skiarearef34.Fair -/
def rfairIr : IFn := ⟨55, [.tmp 6],
  (.seq (.ops [
    ⟨(some 6), .mov, [.const (.bool false)], none⟩] false)
  (.seq (.seq (.ops [
    ⟨(some 10), .mov, [.tmp 2], none⟩,
    ⟨(some 11), .len, [.tmp 10], none⟩,
    ⟨(some 12), .mov, [.tmp 1], none⟩,
    ⟨(some 13), .len, [.tmp 12], none⟩,
    ⟨(some 14), .cmp .neq, [.tmp 11, .tmp 13], none⟩] false)
  (.cond (.tmp 14)
    (.seq (.ops [
      ⟨(some 6), .mov, [.const (.bool false)], none⟩] false)
    .ret)
    .skip))
  (.seq (.seq (.ops [
    ⟨(some 7), .mov, [.const (.int .i64 0)], none⟩] false)
  (.block 0
    (.loop
      (.seq (.seq (.ops [
        ⟨(some 15), .mov, [.tmp 7], none⟩,
        ⟨(some 16), .mov, [.tmp 2], none⟩,
        ⟨(some 17), .len, [.tmp 16], none⟩,
        ⟨(some 18), .cmp .lss, [.tmp 15, .tmp 17], none⟩] false)
      (.cond (.tmp 18)
        .skip
        (.exit 0)))
      (.seq (.block 1
        (.seq (.ops [
          ⟨(some 22), .mov, [.tmp 0], none⟩,
          ⟨(some 23), .mov, [.tmp 1], none⟩,
          ⟨(some 24), .mov, [.tmp 7], none⟩,
          ⟨(some 25), .idx 1, [.tmp 23, .tmp 24], none⟩,
          ⟨(some 26), .load 1 false, [.tmp 25], none⟩,
          ⟨(some 27), .mov, [.tmp 1], none⟩,
          ⟨(some 28), .call 29, [.tmp 27], none⟩,
          ⟨(some 29), .call 23, [.tmp 22, .tmp 26, .tmp 28], none⟩,
          ⟨(some 21), .mov, [.tmp 29], none⟩,
          ⟨(some 30), .extract 0, [.tmp 21], none⟩,
          ⟨(some 31), .extract 1, [.tmp 21], none⟩,
          ⟨(some 8), .mov, [.tmp 30], none⟩,
          ⟨(some 9), .mov, [.tmp 31], none⟩] true)
        (.seq (.ops [
          ⟨(some 32), .mov, [.tmp 2], none⟩,
          ⟨(some 33), .mov, [.tmp 7], none⟩,
          ⟨(some 34), .idx 1, [.tmp 32, .tmp 33], none⟩,
          ⟨(some 35), .load 1 false, [.tmp 34], none⟩,
          ⟨(some 36), .mov, [.tmp 8], none⟩,
          ⟨(some 37), .cmp .neq, [.tmp 35, .tmp 36], none⟩,
          ⟨(some 38), .mov, [.tmp 37], none⟩,
          ⟨(some 39), .mov, [.tmp 9], (some (38, true))⟩,
          ⟨(some 40), .cmp .eql, [.tmp 39, .const (.int .i64 0)], (some (38, true))⟩,
          ⟨(some 41), .mov, [.tmp 40], (some (38, true))⟩,
          ⟨(some 42), .mov, [.tmp 2], (some (41, false))⟩,
          ⟨(some 43), .mov, [.tmp 7], (some (41, false))⟩,
          ⟨(some 44), .idx 1, [.tmp 42, .tmp 43], (some (41, false))⟩,
          ⟨(some 45), .load 1 false, [.tmp 44], (some (41, false))⟩,
          ⟨(some 46), .mov, [.tmp 8], (some (41, false))⟩,
          ⟨(some 47), .bin .add .i64 false, [.tmp 46, .const (.int .i64 1)], (some (41, false))⟩,
          ⟨(some 48), .cmp .neq, [.tmp 45, .tmp 47], (some (41, false))⟩,
          ⟨(some 49), .pick, [.tmp 41, .const (.bool true), .tmp 48], (some (38, true))⟩,
          ⟨(some 50), .pick, [.tmp 38, .tmp 49, .const (.bool false)], none⟩] false)
        (.cond (.tmp 50)
          (.seq (.ops [
            ⟨(some 6), .mov, [.const (.bool false)], none⟩] false)
          .ret)
          .skip))))
      (.ops [
        ⟨(some 19), .mov, [.tmp 7], none⟩,
        ⟨(some 20), .bin .add .i64 false, [.tmp 19, .const (.int .i64 1)], none⟩,
        ⟨(some 7), .mov, [.tmp 20], none⟩] false))))))
  (.seq (.ops [
    ⟨(some 51), .mov, [.tmp 2], none⟩,
    ⟨(some 52), .call 29, [.tmp 51], none⟩,
    ⟨(some 53), .mov, [.tmp 0], none⟩,
    ⟨(some 54), .cmp .eql, [.tmp 52, .tmp 53], none⟩,
    ⟨(some 6), .mov, [.tmp 54], none⟩] false)
  .ret))))⟩
theorem rfairLow : lowF Try.prog {} Try.f17 = some rfairIr := by kernel_rfl
def rfairS : Spec := spec (Int × List Int × List Int) (fun p => [I p.1, L 1 (p.2.1.map e1), L 1 (p.2.2.map e1)]) (fun p => Good p.1 p.2.1 ∧ p.2.2.length ≤ 1000000) (fun p => B (decide (fairP p.1 p.2.1 p.2.2)))
theorem rfairV : fnV Try.prog rfairIr rfairS := by
  intro ⟨(a : Int), (ws : List Int), (ps : List Int)⟩ hx
  obtain ⟨g, hp0⟩ : Good a ws ∧ ps.length ≤ 1000000 := hx
  have hw0 := g.len
  have hl : (ws.map e1).length = ws.length := List.length_map ..
  have hl2 : (ps.map e1).length = ps.length := List.length_map ..
  have hsw : ws.length ≤ 1000000 ∧ ∀ x ∈ ws, -2199023255552 ≤ x ∧ x ≤ 2199023255552 := ⟨by omega, fun x hx => by have := g.wOk x hx; omega⟩
  show vc _ _ _ _ ⟨argEnv 0 [I a, L 1 (ws.map e1), L 1 (ps.map e1)], [], 0⟩
  by_cases hle : ps.length = ws.length
  · repeat' ((conv => whnf); first | (refine ⟨fun h => ?_, fun h => ?_⟩ <;> try (exfalso; first | omega | exact absurd h (by decide) | exact h rfl)) | fail | fail)
    refine ⟨Nat, fun xq => ⟨[(0, I a), (1, L 1 (ws.map e1)), (2, L 1 (ps.map e1)), (7, I xq)], [], 0⟩, fun xq => xq ≤ ws.length ∧ ∀ x ∈ (ws.zip ps).take xq, okP a ws.sum x.1 x.2, fun xq => ws.length - xq, ⟨0, ?_, [], ⟨⟨rfl, rfl⟩, ⟨⟨rfl, rfl⟩, ⟨⟨rfl, rfl⟩, ⟨⟨rfl, rfl⟩, trivial⟩⟩⟩⟩, trivial, rfl, rfl, rfl⟩, ?_⟩
    · (try dsimp only); exact ⟨Nat.zero_le _, by simp⟩
    rintro k hk
    obtain ⟨hk, hok⟩ : k ≤ ws.length ∧ ∀ x ∈ (ws.zip ps).take k, okP a ws.sum x.1 x.2 := hk
    (try dsimp only)
    by_cases hkl : k < ws.length
    ·
      obtain ⟨w, hw⟩ := getElem_some hkl
      obtain ⟨p, hp⟩ := getElem_some (xs := ps) (k := k) (by omega)
      obtain ⟨w0, w1⟩ := g.wOk w (List.mem_of_getElem? hw)
      have hws := le_sum (fun w hw => (g.wOk w hw).1) w (List.mem_of_getElem? hw)
      have hs0 := g.s0
      have hs1 := g.s1
      have ha0 := g.a0
      have ha1 := g.a1
      obtain ⟨q0, q1⟩ := g.q (List.mem_of_getElem? hw)
      have hokd : okP a ws.sum w p = (p = a * w / ws.sum ∨ (a * w % ws.sum ≠ 0 ∧ p = a * w / ws.sum + 1)) := rfl
      by_cases hop : okP a ws.sum w p
      · have hop' := hop
        rw [hokd] at hop'
        repeat' ((conv => whnf); first | (refine ⟨fun h => ?_, fun h => ?_⟩ <;> try (exfalso; first | omega | exact absurd h (by decide) | exact h rfl)) | (refine ⟨by omega, fun r hrr => ?_⟩; first | ((have hre : r = e1 w := by (first | exact get_row hrr hw | fail)); subst hre) | ((have hre : r = e1 p := by (first | exact get_row hrr hp | fail)); subst hre)) | fail | (refine ⟨_, sum_h, ws, hsw, leVs_of_eq rfl, .inl rfl, rfl, ?_⟩; show norm (I ws.sum) _) | (refine ⟨_, quo_h, (a, w, ws.sum), (by show (0 ≤ a ∧ a ≤ 1099511627776) ∧ (0 ≤ w ∧ w ≤ 1000000000) ∧ (1 ≤ ws.sum ∧ ws.sum ≤ 64000000000) ∧ w ≤ ws.sum; omega), leVs_of_eq rfl, .inl rfl, rfl, ?_⟩; show norm (.tup [I (a * w / ws.sum), I (a * w % ws.sum)]) _) | (refine ⟨k + 1, ⟨?_, by (try dsimp only); omega⟩, [], ⟨⟨rfl, rfl⟩, ⟨⟨rfl, rfl⟩, ⟨⟨rfl, rfl⟩, ⟨⟨rfl, rfl⟩, trivial⟩⟩⟩⟩, trivial, rfl, rfl, rfl⟩; (try dsimp only); exact ⟨by omega, fair_step hw hp hop hok⟩) | refine ⟨⟨by omega, by omega⟩, ?_⟩ | fail)
      · have hop' := hop
        rw [hokd] at hop'
        repeat' ((conv => whnf); first | (refine ⟨fun h => ?_, fun h => ?_⟩ <;> try (exfalso; first | omega | exact absurd h (by decide) | exact h rfl)) | (refine ⟨by omega, fun r hrr => ?_⟩; first | ((have hre : r = e1 w := by (first | exact get_row hrr hw | fail)); subst hre) | ((have hre : r = e1 p := by (first | exact get_row hrr hp | fail)); subst hre)) | fail | (refine ⟨_, sum_h, ws, hsw, leVs_of_eq rfl, .inl rfl, rfl, ?_⟩; show norm (I ws.sum) _) | (refine ⟨_, quo_h, (a, w, ws.sum), (by show (0 ≤ a ∧ a ≤ 1099511627776) ∧ (0 ≤ w ∧ w ≤ 1000000000) ∧ (1 ≤ ws.sum ∧ ws.sum ≤ 64000000000) ∧ w ≤ ws.sum; omega), leVs_of_eq rfl, .inl rfl, rfl, ?_⟩; show norm (.tup [I (a * w / ws.sum), I (a * w % ws.sum)]) _) | refine ⟨⟨by omega, by omega⟩, ?_⟩ | fail | fail)
        all_goals (refine ⟨[], rfl, trivial, congrArg CV.bool ?_⟩; exact (decide_eq_false fun h => not_fair hw hp hop h).symm)
    · rw [zip_end hle hkl] at hok
      have hsp : ps.length ≤ 1000000 ∧ ∀ x ∈ ps, -2199023255552 ≤ x ∧ x ≤ 2199023255552 := ⟨hp0, fair_bnd g hle hok⟩
      by_cases hna : ps.sum = a
      · repeat' ((conv => whnf); first | (refine ⟨fun h => ?_, fun h => ?_⟩ <;> try (exfalso; first | omega | exact absurd h (by decide) | exact h rfl)) | (refine ⟨_, sum_h, ps, hsp, leVs_of_eq rfl, .inl rfl, rfl, ?_⟩; show norm (I ps.sum) _) | fail | fail)
        all_goals (refine ⟨[], rfl, trivial, congrArg CV.bool ?_⟩; exact (decide_eq_true ⟨hle, hok, hna⟩).symm)
      · repeat' ((conv => whnf); first | (refine ⟨fun h => ?_, fun h => ?_⟩ <;> try (exfalso; first | omega | exact absurd h (by decide) | exact h rfl)) | (refine ⟨_, sum_h, ps, hsp, leVs_of_eq rfl, .inl rfl, rfl, ?_⟩; show norm (I ps.sum) _) | fail | fail)
        all_goals (refine ⟨[], rfl, trivial, congrArg CV.bool ?_⟩; exact (decide_eq_false fun h => hna h.2.2).symm)
  · repeat' ((conv => whnf); first | (refine ⟨fun h => ?_, fun h => ?_⟩ <;> try (exfalso; first | omega | exact absurd h (by decide) | exact h rfl)) | fail | fail)
    all_goals (refine ⟨[], rfl, trivial, congrArg CV.bool ?_⟩; exact (decide_eq_false fun h => hle h.1).symm)
theorem rfair_h : Holds Try.prog 17 rfairS := holds_of mix Try.func17 rfairLow (fun _ => rfl) rfairV

end Go.Proofs.Ytepacknnggnifaa
