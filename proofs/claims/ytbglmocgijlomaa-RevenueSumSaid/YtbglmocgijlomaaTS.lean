/- Revenue: what the laws call. -/
import Derived.Test.YtbglmocgijlomaaTR
namespace Go.Proofs.Ytbglmocgijlomaa
open Go.RowKit

/-! skiarea/skiarealaw35.total -/
def totalIr : IFn := ⟨60, [.tmp 2, .tmp 3],
  (.seq (.ops [
    ⟨(some 2), .mov, [.const (.int .i64 0)], none⟩,
    ⟨(some 3), .mov, [.const (.bool false)], none⟩] false)
  (.seq (.ops [
    ⟨(some 4), .mov, [.const (.int .i64 0)], none⟩] false)
  (.seq (.seq (.ops [
    ⟨(some 5), .mov, [.const (.int .i64 0)], none⟩] false)
  (.block 0
    (.loop
      (.seq (.seq (.ops [
        ⟨(some 6), .mov, [.tmp 5], none⟩,
        ⟨(some 7), .mov, [.tmp 0], none⟩,
        ⟨(some 8), .len, [.tmp 7], none⟩,
        ⟨(some 9), .cmp .lss, [.tmp 6, .tmp 8], none⟩] false)
      (.cond (.tmp 9)
        .skip
        (.exit 0)))
      (.seq (.block 1
        (.seq (.seq (.ops [
          ⟨(some 12), .mov, [.tmp 0], none⟩,
          ⟨(some 13), .mov, [.tmp 5], none⟩,
          ⟨(some 14), .idx 2, [.tmp 12, .tmp 13], none⟩,
          ⟨(some 15), .faddr 0, [.tmp 14], none⟩,
          ⟨(some 16), .load 1 false, [.tmp 15], none⟩,
          ⟨(some 17), .cmp .lss, [.tmp 16, .const (.int .i64 1)], none⟩,
          ⟨(some 18), .mov, [.tmp 17], none⟩,
          ⟨(some 19), .mov, [.tmp 0], (some (18, false))⟩,
          ⟨(some 20), .mov, [.tmp 5], (some (18, false))⟩,
          ⟨(some 21), .idx 2, [.tmp 19, .tmp 20], (some (18, false))⟩,
          ⟨(some 22), .faddr 0, [.tmp 21], (some (18, false))⟩,
          ⟨(some 23), .load 1 false, [.tmp 22], (some (18, false))⟩,
          ⟨(some 24), .cmp .gtr, [.tmp 23, .const (.int .i64 8)], (some (18, false))⟩,
          ⟨(some 25), .pick, [.tmp 18, .const (.bool true), .tmp 24], none⟩,
          ⟨(some 26), .mov, [.tmp 25], none⟩,
          ⟨(some 27), .mov, [.tmp 0], (some (26, false))⟩,
          ⟨(some 28), .mov, [.tmp 5], (some (26, false))⟩,
          ⟨(some 29), .idx 2, [.tmp 27, .tmp 28], (some (26, false))⟩,
          ⟨(some 30), .faddr 1, [.tmp 29], (some (26, false))⟩,
          ⟨(some 31), .load 1 false, [.tmp 30], (some (26, false))⟩,
          ⟨(some 32), .cmp .lss, [.tmp 31, .const (.int .i64 1)], (some (26, false))⟩,
          ⟨(some 33), .pick, [.tmp 26, .const (.bool true), .tmp 32], none⟩,
          ⟨(some 34), .mov, [.tmp 33], none⟩,
          ⟨(some 35), .mov, [.tmp 5], (some (34, false))⟩,
          ⟨(some 36), .cmp .gtr, [.tmp 35, .const (.int .i64 0)], (some (34, false))⟩,
          ⟨(some 37), .mov, [.tmp 36], (some (34, false))⟩,
          ⟨(some 38), .mov, [.tmp 0], (some (37, true))⟩,
          ⟨(some 39), .mov, [.tmp 5], (some (37, true))⟩,
          ⟨(some 40), .idx 2, [.tmp 38, .tmp 39], (some (37, true))⟩,
          ⟨(some 41), .faddr 0, [.tmp 40], (some (37, true))⟩,
          ⟨(some 42), .load 1 false, [.tmp 41], (some (37, true))⟩,
          ⟨(some 43), .mov, [.tmp 0], (some (37, true))⟩,
          ⟨(some 44), .mov, [.tmp 5], (some (37, true))⟩,
          ⟨(some 45), .bin .sub .i64 false, [.tmp 44, .const (.int .i64 1)], (some (37, true))⟩,
          ⟨(some 46), .idx 2, [.tmp 43, .tmp 45], (some (37, true))⟩,
          ⟨(some 47), .faddr 0, [.tmp 46], (some (37, true))⟩,
          ⟨(some 48), .load 1 false, [.tmp 47], (some (37, true))⟩,
          ⟨(some 49), .cmp .leq, [.tmp 42, .tmp 48], (some (37, true))⟩,
          ⟨(some 50), .pick, [.tmp 37, .tmp 49, .const (.bool false)], (some (34, false))⟩,
          ⟨(some 51), .pick, [.tmp 34, .const (.bool true), .tmp 50], none⟩] true)
        (.cond (.tmp 51)
          (.seq (.ops [
            ⟨(some 2), .mov, [.const (.int .i64 0)], none⟩,
            ⟨(some 3), .mov, [.const (.bool false)], none⟩] false)
          .ret)
          .skip))
        (.ops [
          ⟨(some 52), .mov, [.tmp 4], none⟩,
          ⟨(some 53), .mov, [.tmp 0], none⟩,
          ⟨(some 54), .mov, [.tmp 5], none⟩,
          ⟨(some 55), .idx 2, [.tmp 53, .tmp 54], none⟩,
          ⟨(some 56), .faddr 1, [.tmp 55], none⟩,
          ⟨(some 57), .load 1 false, [.tmp 56], none⟩,
          ⟨(some 58), .bin .add .i64 false, [.tmp 52, .tmp 57], none⟩,
          ⟨(some 4), .mov, [.tmp 58], none⟩] false)))
      (.ops [
        ⟨(some 10), .mov, [.tmp 5], none⟩,
        ⟨(some 11), .bin .add .i64 false, [.tmp 10, .const (.int .i64 1)], none⟩,
        ⟨(some 5), .mov, [.tmp 11], none⟩] false))))))
  (.seq (.ops [
    ⟨(some 59), .mov, [.tmp 4], none⟩,
    ⟨(some 2), .mov, [.tmp 59], none⟩,
    ⟨(some 3), .mov, [.const (.bool true)], none⟩] false)
  .ret))))⟩
theorem totalLow : lowF Try.prog {} Try.f22 = some totalIr := by kernel_rfl
def totalS : Spec := spec (List Share) (fun l => [L 2 (l.map encS)]) Fine (fun l => .tup [I (sumA l), B true])
set_option maxHeartbeats 2000000 in
theorem totalV : fnV Try.prog totalIr totalS := by
  intro (l : List Share) (hf : Fine l)
  have hln := hf.len
  have hsm := hf.sum
  have hl : (l.map encS).length = l.length := List.length_map ..
  conv => whnf
  refine ⟨Nat, fun xq => ⟨[(0, L 2 (l.map encS)), (4, I (sumA (l.take xq))), (5, I xq)], [], 0⟩, fun xq => xq ≤ l.length, fun xq => l.length - xq, ⟨0, ?_, [], ⟨⟨rfl, rfl⟩, ⟨⟨rfl, rfl⟩, ⟨⟨rfl, rfl⟩, trivial⟩⟩⟩, trivial, rfl, rfl, rfl⟩, ?_⟩
  · (try dsimp only); exact Nat.zero_le _
  rintro k hk
  obtain hk : k ≤ l.length := hk
  (try dsimp only)
  have hb := fine_take hf k
  by_cases hkl : k < l.length
  · obtain ⟨x, hx⟩ := getElem_some hkl
    obtain ⟨⟨o1, o2⟩, a1⟩ := hf.op x (List.mem_of_getElem? hx)
    have hst := sumA_snoc hx
    have hb2 := fine_take hf (k + 1)
    by_cases hk0 : k = 0
    · subst hk0
      repeat' ((conv => whnf); first | (refine ⟨_ + 1, ⟨?_, by (try dsimp only); omega⟩, [], ⟨⟨rfl, rfl⟩, ⟨(by rw [hst]; rfl), rfl⟩, ⟨rfl, rfl⟩, trivial⟩, trivial, rfl, rfl, rfl⟩; (try dsimp only); omega) | (refine ⟨fun h => ?_, fun h => ?_⟩ <;> try (exfalso; first | omega | exact absurd h (by decide) | exact h rfl)) | (refine ⟨by omega, fun r hrr => ?_⟩; first | ((have hre : r = encS x := by (first | exact get_row hrr hx | fail)); subst hre)) | refine ⟨⟨by omega, by omega⟩, ?_⟩ | fail | fail)
    · obtain ⟨y, hy⟩ := getElem_some (show k - 1 < l.length by omega)
      have hlt := fine_lt hf hx hy (by omega)
      repeat' ((conv => whnf); first | (refine ⟨k + 1, ⟨?_, by (try dsimp only); omega⟩, [], ⟨⟨rfl, rfl⟩, ⟨(by rw [hst]; rfl), rfl⟩, ⟨rfl, rfl⟩, trivial⟩, trivial, rfl, rfl, rfl⟩; (try dsimp only); omega) | (refine ⟨fun h => ?_, fun h => ?_⟩ <;> try (exfalso; first | omega | exact absurd h (by decide) | exact h rfl)) | (refine ⟨by omega, fun r hrr => ?_⟩; first | ((have hre : r = encS x := by (first | exact get_row hrr hx | fail)); subst hre) | ((have hre : r = encS y := by (first | exact get_rowi (j := k - 1) hrr (by omega) hy | fail)); subst hre)) | refine ⟨⟨by omega, by omega⟩, ?_⟩ | fail | fail)
  · have hkn : l.take k = l := take_end hkl
    rw [hkn]
    repeat' ((conv => whnf); first | (refine ⟨fun h => ?_, fun h => ?_⟩ <;> try (exfalso; first | omega | exact absurd h (by decide) | exact h rfl)) | fail | fail)
    all_goals exact ⟨[], rfl, trivial, ⟨leV_refl _, rfl, trivial⟩⟩
theorem total_h : Holds Try.prog 22 totalS := holds_of mix Try.func22 totalLow (fun _ => rfl) totalV

/-! skiarea/skiarealaw35.defined -/
def definedIr : IFn := ⟨25, [.tmp 2],
  (.seq (.ops [
    ⟨(some 1), .box, [.tmp 0], none⟩,
    ⟨(some 2), .mov, [.const (.bool false)], none⟩] false)
  (.seq (.ops [
    ⟨(some 3), .faddr 5, [.tmp 1], none⟩,
    ⟨(some 4), .load 1 false, [.tmp 3], none⟩,
    ⟨(some 5), .len, [.tmp 4], none⟩,
    ⟨(some 6), .cmp .leq, [.tmp 5, .const (.int .i64 100)], none⟩,
    ⟨(some 7), .mov, [.tmp 6], none⟩,
    ⟨(some 8), .faddr 0, [.tmp 1], (some (7, true))⟩,
    ⟨(some 9), .load 4 true, [.tmp 8], (some (7, true))⟩,
    ⟨(some 10), .call 26, [.tmp 9], (some (7, true))⟩,
    ⟨(some 11), .cmp .eql, [.tmp 10, .const (.int .i64 0)], (some (7, true))⟩,
    ⟨(some 12), .pick, [.tmp 7, .tmp 11, .const (.bool false)], none⟩,
    ⟨(some 13), .mov, [.tmp 12], none⟩,
    ⟨(some 14), .faddr 4, [.tmp 1], (some (13, true))⟩,
    ⟨(some 15), .load 1 false, [.tmp 14], (some (13, true))⟩,
    ⟨(some 16), .call 27, [.tmp 15], (some (13, true))⟩,
    ⟨(some 17), .cmp .eql, [.tmp 16, .const (.int .i64 0)], (some (13, true))⟩,
    ⟨(some 18), .pick, [.tmp 13, .tmp 17, .const (.bool false)], none⟩,
    ⟨(some 19), .mov, [.tmp 18], none⟩,
    ⟨(some 20), .faddr 5, [.tmp 1], (some (19, true))⟩,
    ⟨(some 21), .load 1 false, [.tmp 20], (some (19, true))⟩,
    ⟨(some 22), .call 28, [.tmp 21], (some (19, true))⟩,
    ⟨(some 23), .cmp .eql, [.tmp 22, .const (.int .i64 0)], (some (19, true))⟩,
    ⟨(some 24), .pick, [.tmp 19, .tmp 23, .const (.bool false)], none⟩,
    ⟨(some 2), .mov, [.tmp 24], none⟩] false)
  .ret))⟩
theorem definedLow : lowF Try.prog {} Try.f13 = some definedIr := by kernel_rfl
def definedS : Spec := spec Book (fun b => [aB b]) okB (fun b => B (decide (defP b)))
set_option maxHeartbeats 2000000 in
theorem definedV : fnV Try.prog definedIr definedS := by
  intro ⟨(m : Mp), (l : List Tariff), (rides : List Ride)⟩ hx
  obtain ⟨hm, ht, hd⟩ : okB ⟨m, l, rides⟩ := hx
  replace hm : okM m := hm
  replace ht : okT l := ht
  replace hd : rides.length ≤ 9223372036854775807 := hd
  have hl : (rides.map encD).length = rides.length := List.length_map ..
  show vc _ _ _ _ ⟨argEnv 0 [.agg [L 2 (m.nodes.map encN), L 8 (m.lifts.map encL), L 7 (m.runs.map encU), L 1 (m.bases.map e1), L 2 (l.map encT), L 7 (rides.map encD)]], [], 0⟩
  by_cases h1 : rides.length ≤ 100
  · by_cases h2 : rightM m = 0
    · by_cases h3 : tarsE l = 0
      · by_cases h4 : ridesE rides = 0
        · repeat' ((conv => whnf); first | (refine ⟨fun h => ?_, fun h => ?_⟩ <;> try (exfalso; first | omega | exact absurd h (by decide) | exact h rfl)) | (refine ⟨_, rrightM_h, m, hm, leVs_of_eq rfl, .inl rfl, rfl, ?_⟩; show norm (I (rightM m)) _) | (refine ⟨_, rtars_h, l, ht, leVs_of_eq rfl, .inl rfl, rfl, ?_⟩; show norm (I (tarsE l)) _) | (refine ⟨_, rrides_h, rides, (by show rides.length ≤ 1000000; omega), leVs_of_eq rfl, .inl rfl, rfl, ?_⟩; show norm (I (ridesE rides)) _) | refine ⟨[], rfl, trivial, congrArg CV.bool ?_⟩ | fail)
          all_goals exact (decide_eq_true (show defP ⟨m, l, rides⟩ from ⟨⟨⟨h1, h2⟩, h3⟩, h4⟩)).symm
        · repeat' ((conv => whnf); first | (refine ⟨fun h => ?_, fun h => ?_⟩ <;> try (exfalso; first | omega | exact absurd h (by decide) | exact h rfl)) | (refine ⟨_, rrightM_h, m, hm, leVs_of_eq rfl, .inl rfl, rfl, ?_⟩; show norm (I (rightM m)) _) | (refine ⟨_, rtars_h, l, ht, leVs_of_eq rfl, .inl rfl, rfl, ?_⟩; show norm (I (tarsE l)) _) | (refine ⟨_, rrides_h, rides, (by show rides.length ≤ 1000000; omega), leVs_of_eq rfl, .inl rfl, rfl, ?_⟩; show norm (I (ridesE rides)) _) | refine ⟨[], rfl, trivial, congrArg CV.bool ?_⟩ | fail)
          all_goals (first | exact (decide_eq_false (fun (h : defP ⟨m, l, rides⟩) => h4 h.2)).symm | exact decide_eq_false (fun (h : defP ⟨m, l, rides⟩) => h4 h.2) | exact (decide_eq_false h4).trans (decide_eq_false (fun (h : defP ⟨m, l, rides⟩) => h4 h.2)).symm)
      · repeat' ((conv => whnf); first | (refine ⟨fun h => ?_, fun h => ?_⟩ <;> try (exfalso; first | omega | exact absurd h (by decide) | exact h rfl)) | (refine ⟨_, rrightM_h, m, hm, leVs_of_eq rfl, .inl rfl, rfl, ?_⟩; show norm (I (rightM m)) _) | (refine ⟨_, rtars_h, l, ht, leVs_of_eq rfl, .inl rfl, rfl, ?_⟩; show norm (I (tarsE l)) _) | refine ⟨[], rfl, trivial, congrArg CV.bool ?_⟩ | fail)
        all_goals exact (decide_eq_false (fun (h : defP ⟨m, l, rides⟩) => h3 h.1.2)).symm
    · repeat' ((conv => whnf); first | (refine ⟨fun h => ?_, fun h => ?_⟩ <;> try (exfalso; first | omega | exact absurd h (by decide) | exact h rfl)) | (refine ⟨_, rrightM_h, m, hm, leVs_of_eq rfl, .inl rfl, rfl, ?_⟩; show norm (I (rightM m)) _) | refine ⟨[], rfl, trivial, congrArg CV.bool ?_⟩ | fail)
      all_goals exact (decide_eq_false (fun (h : defP ⟨m, l, rides⟩) => h2 h.1.1.2)).symm
  · repeat' ((conv => whnf); first | (refine ⟨fun h => ?_, fun h => ?_⟩ <;> try (exfalso; first | omega | exact absurd h (by decide) | exact h rfl)) | refine ⟨[], rfl, trivial, congrArg CV.bool ?_⟩ | fail)
    all_goals exact (decide_eq_false (fun (h : defP ⟨m, l, rides⟩) => h1 h.1.1.1)).symm
theorem defined_h : Holds Try.prog 13 definedS := holds_of mix Try.func13 definedLow (fun _ => rfl) definedV

end Go.Proofs.Ytbglmocgijlomaa
