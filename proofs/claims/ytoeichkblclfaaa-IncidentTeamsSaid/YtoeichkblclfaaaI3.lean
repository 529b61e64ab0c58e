/- Incidents: Right. -/
import Derived.Test.YtoeichkblclfaaaI2
namespace Go.Proofs.Ytoeichkblclfaaa
open Go.RowKit

/-! skiarea/incident.Right -/
def rightIr : IFn := ⟨49, [.tmp 2],
  (.seq (.ops [
    ⟨(some 2), .mov, [.const (.int .i64 0)], none⟩] false)
  (.seq (.seq (.ops [
    ⟨(some 5), .mov, [.tmp 0], none⟩,
    ⟨(some 6), .len, [.tmp 5], none⟩,
    ⟨(some 7), .cmp .gtr, [.tmp 6, .const (.int .i64 64)], none⟩] false)
  (.cond (.tmp 7)
    (.seq (.ops [
      ⟨(some 2), .mov, [.const (.int .i64 4)], none⟩] false)
    .ret)
    .skip))
  (.seq (.seq (.ops [
    ⟨(some 8), .mov, [.tmp 0], none⟩,
    ⟨(some 9), .len, [.tmp 8], none⟩,
    ⟨(some 10), .mov, [.const (.int .i64 0)], none⟩] false)
  (.block 0
    (.loop
      (.seq (.ops [
        ⟨(some 11), .cmp .lss, [.tmp 10, .tmp 9], none⟩] false)
      (.seq (.cond (.tmp 11)
        .skip
        (.exit 0))
      (.seq (.block 1
        (.seq (.ops [
          ⟨(some 12), .mov, [.tmp 10], none⟩,
          ⟨(some 13), .idx 6, [.tmp 8, .tmp 10], none⟩,
          ⟨(some 14), .load 6 true, [.tmp 13], none⟩,
          ⟨(some 4), .alloc [.int .i64 0, .int .i64 0, .int .i64 0, .int .i64 0, .int .i64 0, .int .i64 0], [], none⟩,
          ⟨(some 3), .mov, [.tmp 12], none⟩,
          ⟨none, .store 6, [.tmp 4, .tmp 14], none⟩] false)
        (.seq (.seq (.ops [
          ⟨(some 15), .load 6 true, [.tmp 4], none⟩,
          ⟨(some 16), .call 29, [.tmp 15], none⟩,
          ⟨(some 17), .not, [.tmp 16], none⟩] false)
        (.cond (.tmp 17)
          (.seq (.ops [
            ⟨(some 2), .mov, [.const (.int .i64 2)], none⟩] false)
          .ret)
          .skip))
        (.seq (.seq (.ops [
          ⟨(some 18), .mov, [.tmp 0], none⟩,
          ⟨(some 19), .mov, [.tmp 3], none⟩,
          ⟨(some 20), .slice 6 false true, [.tmp 18, .tmp 19], none⟩,
          ⟨(some 21), .faddr 0, [.tmp 4], none⟩,
          ⟨(some 22), .load 1 false, [.tmp 21], none⟩,
          ⟨(some 23), .call 30, [.tmp 20, .tmp 22], none⟩,
          ⟨(some 24), .cmp .geq, [.tmp 23, .const (.int .i64 0)], none⟩] true)
        (.cond (.tmp 24)
          (.seq (.ops [
            ⟨(some 2), .mov, [.const (.int .i64 7)], none⟩] false)
          .ret)
          .skip))
        (.seq (.seq (.ops [
          ⟨(some 25), .faddr 4, [.tmp 4], none⟩,
          ⟨(some 26), .load 1 false, [.tmp 25], none⟩,
          ⟨(some 27), .cmp .eql, [.tmp 26, .const (.int .i64 0)], none⟩,
          ⟨(some 28), .faddr 3, [.tmp 4], none⟩,
          ⟨(some 29), .load 1 false, [.tmp 28], none⟩,
          ⟨(some 30), .cmp .eql, [.tmp 29, .const (.int .i64 1)], none⟩,
          ⟨(some 31), .mov, [.tmp 30], none⟩,
          ⟨(some 32), .faddr 3, [.tmp 4], (some (31, false))⟩,
          ⟨(some 33), .load 1 false, [.tmp 32], (some (31, false))⟩,
          ⟨(some 34), .cmp .eql, [.tmp 33, .const (.int .i64 5)], (some (31, false))⟩,
          ⟨(some 35), .pick, [.tmp 31, .const (.bool true), .tmp 34], none⟩,
          ⟨(some 36), .eqb true, [.tmp 27, .tmp 35], none⟩] false)
        (.cond (.tmp 36)
          (.seq (.ops [
            ⟨(some 2), .mov, [.const (.int .i64 10)], none⟩] false)
          .ret)
          .skip))
        (.seq (.ops [
          ⟨(some 37), .faddr 4, [.tmp 4], none⟩,
          ⟨(some 38), .load 1 false, [.tmp 37], none⟩,
          ⟨(some 39), .cmp .neq, [.tmp 38, .const (.int .i64 0)], none⟩,
          ⟨(some 40), .mov, [.tmp 39], none⟩,
          ⟨(some 41), .mov, [.tmp 0], (some (40, true))⟩,
          ⟨(some 42), .mov, [.tmp 3], (some (40, true))⟩,
          ⟨(some 43), .slice 6 false true, [.tmp 41, .tmp 42], (some (40, true))⟩,
          ⟨(some 44), .faddr 4, [.tmp 4], (some (40, true))⟩,
          ⟨(some 45), .load 1 false, [.tmp 44], (some (40, true))⟩,
          ⟨(some 46), .call 31, [.tmp 43, .tmp 45], (some (40, true))⟩,
          ⟨(some 47), .pick, [.tmp 40, .tmp 46, .const (.bool false)], none⟩] true)
        (.cond (.tmp 47)
          (.seq (.ops [
            ⟨(some 2), .mov, [.const (.int .i64 15)], none⟩] false)
          .ret)
          .skip)))))))
      (.ops [
        ⟨(some 48), .bin .add .i64 false, [.tmp 10, .const (.int .i64 1)], none⟩,
        ⟨(some 10), .mov, [.tmp 48], none⟩] false)))))))
  (.seq (.ops [
    ⟨(some 2), .mov, [.const (.int .i64 0)], none⟩] false)
  .ret))))⟩
theorem rightLow : lowF Try.prog {} Try.f10 = some rightIr := by kernel_rfl
def rightS : Spec := spec (List Inc) (fun l => [L 6 (l.map encI)]) (fun l => l.length ≤ 9223372036854775807) (fun l => I (rightI l))
theorem rightV : fnV Try.prog rightIr rightS := by
  intro (l : List Inc) hl0
  replace hl1 : l.length ≤ 9223372036854775807 := hl0
  have hl : (l.map encI).length = l.length := List.length_map ..
  show vc _ _ _ _ ⟨argEnv 0 [L 6 (l.map encI)], [], 0⟩
  by_cases hb : 64 < l.length
  · repeat' ((conv => whnf); first | (refine ⟨fun h => ?_, fun h => ?_⟩ <;> try (exfalso; first | omega | exact absurd h (by decide) | exact h rfl | exact absurd (show true = false from h) (by decide) | exact absurd (show false = true from h) (by decide))) | fail | fail)
    all_goals (refine ⟨[], rfl, trivial, congrArg (CV.int .i64) ?_⟩; exact ((show rightI l = 4 from if_pos hb)).symm)
  have hR : rightI l = fe (icE l) l.length := if_neg hb
  repeat' ((conv => whnf); first | (refine ⟨fun h => ?_, fun h => ?_⟩ <;> try (exfalso; first | omega | exact absurd h (by decide) | exact h rfl | exact absurd (show true = false from h) (by decide) | exact absurd (show false = true from h) (by decide))) | fail | fail)
  refine ⟨Nat, fun xq => ⟨[(0, L 6 (l.map encI)), (8, L 6 (l.map encI)), (9, I (l.map encI).length), (10, I xq)], [], 0⟩, fun xq => xq ≤ l.length ∧ fe (icE l) xq = 0, fun xq => l.length - xq, ⟨0, ?_, [], ⟨⟨rfl, rfl⟩, ⟨⟨rfl, rfl⟩, ⟨⟨rfl, rfl⟩, ⟨⟨rfl, rfl⟩, trivial⟩⟩⟩⟩, trivial, rfl, rfl, rfl⟩, ?_⟩
  · (try dsimp only); exact ⟨Nat.zero_le _, rfl⟩
  rintro k hk
  obtain ⟨hk, h0⟩ : k ≤ l.length ∧ fe (icE l) k = 0 := hk
  (try dsimp only)
  by_cases hkl : k < l.length
  · obtain ⟨x, hx⟩ := getElem_some hkl
    have hE : icE l k = if ¬ incP x then 2 else if (l.take k).any (idB x.id) = true then 7 else if ¬ (x.team = 0 ↔ freeP x) then 10 else if x.team ≠ 0 ∧ (l.take k).any (teamB x.team) = true then 15 else 0 := by unfold icE; rw [at_of hx]
    cases d : decide (incP x) with
    | false =>
      repeat' ((conv => whnf); first | (refine ⟨fun h => ?_, fun h => ?_⟩ <;> try (exfalso; first | omega | exact absurd h (by decide) | exact h rfl | exact absurd (show true = false from h) (by decide) | exact absurd (show false = true from h) (by decide))) | (refine ⟨by omega, fun r hrr => ?_⟩; first | ((have hre : r = encI x := by (first | exact get_row hrr hx | fail)); subst hre)) | (refine ⟨_, inrng_h, x, trivial, leVs_of_eq rfl, .inl rfl, rfl, ?_⟩; show norm (B (decide (incP x))) _; rw [d]) | fail | fail)
      all_goals (refine ⟨[], rfl, trivial, congrArg (CV.int .i64) ?_⟩; exact (hR.trans (fe_hit hkl h0 (hE.trans (if_pos (of_decide_eq_false d))) (by decide))).symm)
    | true =>
      rw [if_neg (Decidable.not_not.2 (of_decide_eq_true d))] at hE
      rcases ix_cases (idB x.id) (l.take k) with ⟨q1, h2⟩ | ⟨j, y, q1, _, _, _, h2⟩
      · rw [if_neg (by rw [h2]; decide)] at hE
        by_cases ht : x.team = 0 ↔ freeP x
        · rw [if_neg (Decidable.not_not.2 ht)] at hE
          replace ht : x.team = 0 ↔ (x.st = 1 ∨ x.st = 5) := ht
          by_cases hz : x.team = 0
          · repeat' ((conv => whnf); first | (refine ⟨fun h => ?_, fun h => ?_⟩ <;> try (exfalso; first | omega | exact absurd h (by decide) | exact h rfl | exact absurd (show true = false from h) (by decide) | exact absurd (show false = true from h) (by decide))) | (refine ⟨by omega, fun r hrr => ?_⟩; first | ((have hre : r = encI x := by (first | exact get_row hrr hx | fail)); subst hre)) | (refine ⟨_, inrng_h, x, trivial, leVs_of_eq rfl, .inl rfl, rfl, ?_⟩; show norm (B (decide (incP x))) _; rw [d]) | (refine ⟨_, find_h, (l.take k, x.id), (take_le hl1), (leVs_of_eq (by show [L 6 (((l.map encI).take ((k : Int)).toNat).drop (0 : Int).toNat), I x.id] = [L 6 ((l.take k).map encI), I x.id]; rw [Int.toNat_natCast, List.map_take]; rfl)), .inl rfl, rfl, ?_⟩; show norm (I (ixF (idB x.id) (l.take k))) _; rw [q1]) | (refine ⟨⟨by omega, by omega, by omega⟩, ?_⟩) | (refine ⟨k + 1, ⟨?_, by (try dsimp only); omega⟩, [], ⟨⟨rfl, rfl⟩, ⟨⟨rfl, rfl⟩, ⟨⟨rfl, rfl⟩, ⟨⟨rfl, rfl⟩, trivial⟩⟩⟩⟩, trivial, rfl, rfl, rfl⟩; (try dsimp only); exact ⟨by omega, fe_go h0 (hE.trans (if_neg (fun h => h.1 hz)))⟩) | refine ⟨⟨by omega, by omega⟩, ?_⟩ | fail)
          · cases q2 : (l.take k).any (teamB x.team) with
            | true =>
              repeat' ((conv => whnf); first | (refine ⟨fun h => ?_, fun h => ?_⟩ <;> try (exfalso; first | omega | exact absurd h (by decide) | exact h rfl | exact absurd (show true = false from h) (by decide) | exact absurd (show false = true from h) (by decide))) | (refine ⟨by omega, fun r hrr => ?_⟩; first | ((have hre : r = encI x := by (first | exact get_row hrr hx | fail)); subst hre)) | (refine ⟨_, inrng_h, x, trivial, leVs_of_eq rfl, .inl rfl, rfl, ?_⟩; show norm (B (decide (incP x))) _; rw [d]) | (refine ⟨_, find_h, (l.take k, x.id), (take_le hl1), (leVs_of_eq (by show [L 6 (((l.map encI).take ((k : Int)).toNat).drop (0 : Int).toNat), I x.id] = [L 6 ((l.take k).map encI), I x.id]; rw [Int.toNat_natCast, List.map_take]; rfl)), .inl rfl, rfl, ?_⟩; show norm (I (ixF (idB x.id) (l.take k))) _; rw [q1]) | (refine ⟨_, engaged_h, (l.take k, x.team), (take_le hl1), (leVs_of_eq (by show [L 6 (((l.map encI).take ((k : Int)).toNat).drop (0 : Int).toNat), I x.team] = [L 6 ((l.take k).map encI), I x.team]; rw [Int.toNat_natCast, List.map_take]; rfl)), .inl rfl, rfl, ?_⟩; show norm (B ((l.take k).any (teamB x.team))) _; rw [q2]) | (refine ⟨⟨by omega, by omega, by omega⟩, ?_⟩) | fail | fail)
              all_goals (refine ⟨[], rfl, trivial, congrArg (CV.int .i64) ?_⟩; exact (hR.trans (fe_hit hkl h0 (hE.trans (if_pos ⟨hz, q2⟩)) (by decide))).symm)
            | false =>
              repeat' ((conv => whnf); first | (refine ⟨fun h => ?_, fun h => ?_⟩ <;> try (exfalso; first | omega | exact absurd h (by decide) | exact h rfl | exact absurd (show true = false from h) (by decide) | exact absurd (show false = true from h) (by decide))) | (refine ⟨by omega, fun r hrr => ?_⟩; first | ((have hre : r = encI x := by (first | exact get_row hrr hx | fail)); subst hre)) | (refine ⟨_, inrng_h, x, trivial, leVs_of_eq rfl, .inl rfl, rfl, ?_⟩; show norm (B (decide (incP x))) _; rw [d]) | (refine ⟨_, find_h, (l.take k, x.id), (take_le hl1), (leVs_of_eq (by show [L 6 (((l.map encI).take ((k : Int)).toNat).drop (0 : Int).toNat), I x.id] = [L 6 ((l.take k).map encI), I x.id]; rw [Int.toNat_natCast, List.map_take]; rfl)), .inl rfl, rfl, ?_⟩; show norm (I (ixF (idB x.id) (l.take k))) _; rw [q1]) | (refine ⟨_, engaged_h, (l.take k, x.team), (take_le hl1), (leVs_of_eq (by show [L 6 (((l.map encI).take ((k : Int)).toNat).drop (0 : Int).toNat), I x.team] = [L 6 ((l.take k).map encI), I x.team]; rw [Int.toNat_natCast, List.map_take]; rfl)), .inl rfl, rfl, ?_⟩; show norm (B ((l.take k).any (teamB x.team))) _; rw [q2]) | (refine ⟨⟨by omega, by omega, by omega⟩, ?_⟩) | (refine ⟨k + 1, ⟨?_, by (try dsimp only); omega⟩, [], ⟨⟨rfl, rfl⟩, ⟨⟨rfl, rfl⟩, ⟨⟨rfl, rfl⟩, ⟨⟨rfl, rfl⟩, trivial⟩⟩⟩⟩, trivial, rfl, rfl, rfl⟩; (try dsimp only); exact ⟨by omega, fe_go h0 (hE.trans (if_neg (fun h => by rw [q2] at h; exact absurd h.2 (by decide))))⟩) | refine ⟨⟨by omega, by omega⟩, ?_⟩ | fail)
        · replace hE := hE.trans (if_pos ht)
          replace ht : ¬ (x.team = 0 ↔ (x.st = 1 ∨ x.st = 5)) := ht
          repeat' ((conv => whnf); first | (refine ⟨fun h => ?_, fun h => ?_⟩ <;> try (exfalso; first | omega | exact absurd h (by decide) | exact h rfl | exact absurd (show true = false from h) (by decide) | exact absurd (show false = true from h) (by decide))) | (refine ⟨by omega, fun r hrr => ?_⟩; first | ((have hre : r = encI x := by (first | exact get_row hrr hx | fail)); subst hre)) | (refine ⟨_, inrng_h, x, trivial, leVs_of_eq rfl, .inl rfl, rfl, ?_⟩; show norm (B (decide (incP x))) _; rw [d]) | (refine ⟨_, find_h, (l.take k, x.id), (take_le hl1), (leVs_of_eq (by show [L 6 (((l.map encI).take ((k : Int)).toNat).drop (0 : Int).toNat), I x.id] = [L 6 ((l.take k).map encI), I x.id]; rw [Int.toNat_natCast, List.map_take]; rfl)), .inl rfl, rfl, ?_⟩; show norm (I (ixF (idB x.id) (l.take k))) _; rw [q1]) | (refine ⟨⟨by omega, by omega, by omega⟩, ?_⟩) | fail | fail)
          all_goals (refine ⟨[], rfl, trivial, congrArg (CV.int .i64) ?_⟩; exact (hR.trans (fe_hit hkl h0 hE (by decide))).symm)
      · replace hE := hE.trans (if_pos h2)
        repeat' ((conv => whnf); first | (refine ⟨fun h => ?_, fun h => ?_⟩ <;> try (exfalso; first | omega | exact absurd h (by decide) | exact h rfl | exact absurd (show true = false from h) (by decide) | exact absurd (show false = true from h) (by decide))) | (refine ⟨by omega, fun r hrr => ?_⟩; first | ((have hre : r = encI x := by (first | exact get_row hrr hx | fail)); subst hre)) | (refine ⟨_, inrng_h, x, trivial, leVs_of_eq rfl, .inl rfl, rfl, ?_⟩; show norm (B (decide (incP x))) _; rw [d]) | (refine ⟨_, find_h, (l.take k, x.id), (take_le hl1), (leVs_of_eq (by show [L 6 (((l.map encI).take ((k : Int)).toNat).drop (0 : Int).toNat), I x.id] = [L 6 ((l.take k).map encI), I x.id]; rw [Int.toNat_natCast, List.map_take]; rfl)), .inl rfl, rfl, ?_⟩; show norm (I (ixF (idB x.id) (l.take k))) _; rw [q1]) | (refine ⟨⟨by omega, by omega, by omega⟩, ?_⟩) | fail | fail)
        all_goals (refine ⟨[], rfl, trivial, congrArg (CV.int .i64) ?_⟩; exact (hR.trans (fe_hit hkl h0 hE (by decide))).symm)
  · have hkn : k = l.length := by omega
    subst hkn
    repeat' ((conv => whnf); first | (refine ⟨fun h => ?_, fun h => ?_⟩ <;> try (exfalso; first | omega | exact absurd h (by decide) | exact h rfl | exact absurd (show true = false from h) (by decide) | exact absurd (show false = true from h) (by decide))) | fail | fail)
    all_goals (refine ⟨[], rfl, trivial, congrArg (CV.int .i64) ?_⟩; exact (hR.trans h0).symm)
theorem right_h : Holds Try.prog 10 rightS := holds_of mix Try.func10 rightLow (fun _ => rfl) rightV

/-! skiarea/skiarearef57.Right -/
def rrightIr : IFn := ⟨107, [.tmp 2],
  (.seq (.ops [
    ⟨(some 2), .mov, [.const (.int .i64 0)], none⟩] false)
  (.seq (.seq (.ops [
    ⟨(some 7), .mov, [.tmp 0], none⟩,
    ⟨(some 8), .len, [.tmp 7], none⟩,
    ⟨(some 9), .cmp .gtr, [.tmp 8, .const (.int .i64 64)], none⟩] false)
  (.cond (.tmp 9)
    (.seq (.ops [
      ⟨(some 2), .mov, [.const (.int .i64 4)], none⟩] false)
    .ret)
    .skip))
  (.seq (.seq (.ops [
    ⟨(some 3), .mov, [.const (.int .i64 0)], none⟩] false)
  (.block 0
    (.loop
      (.seq (.seq (.ops [
        ⟨(some 10), .mov, [.tmp 3], none⟩,
        ⟨(some 11), .mov, [.tmp 0], none⟩,
        ⟨(some 12), .len, [.tmp 11], none⟩,
        ⟨(some 13), .cmp .lss, [.tmp 10, .tmp 12], none⟩] false)
      (.cond (.tmp 13)
        .skip
        (.exit 0)))
      (.seq (.block 1
        (.seq (.ops [
          ⟨(some 16), .mov, [.tmp 0], none⟩,
          ⟨(some 17), .mov, [.tmp 3], none⟩,
          ⟨(some 18), .idx 6, [.tmp 16, .tmp 17], none⟩,
          ⟨(some 19), .load 6 true, [.tmp 18], none⟩,
          ⟨(some 4), .alloc [.int .i64 0, .int .i64 0, .int .i64 0, .int .i64 0, .int .i64 0, .int .i64 0], [], none⟩,
          ⟨none, .store 6, [.tmp 4, .tmp 19], none⟩] false)
        (.seq (.seq (.ops [
          ⟨(some 20), .faddr 0, [.tmp 4], none⟩,
          ⟨(some 21), .load 1 false, [.tmp 20], none⟩,
          ⟨(some 22), .call 32, [.tmp 21], none⟩,
          ⟨(some 23), .not, [.tmp 22], none⟩,
          ⟨(some 24), .mov, [.tmp 23], none⟩,
          ⟨(some 25), .faddr 1, [.tmp 4], (some (24, false))⟩,
          ⟨(some 26), .load 1 false, [.tmp 25], (some (24, false))⟩,
          ⟨(some 27), .call 32, [.tmp 26], (some (24, false))⟩,
          ⟨(some 28), .not, [.tmp 27], (some (24, false))⟩,
          ⟨(some 29), .pick, [.tmp 24, .const (.bool true), .tmp 28], none⟩,
          ⟨(some 30), .mov, [.tmp 29], none⟩,
          ⟨(some 31), .faddr 2, [.tmp 4], (some (30, false))⟩,
          ⟨(some 32), .load 1 false, [.tmp 31], (some (30, false))⟩,
          ⟨(some 33), .cmp .lss, [.tmp 32, .const (.int .i64 0)], (some (30, false))⟩,
          ⟨(some 34), .pick, [.tmp 30, .const (.bool true), .tmp 33], none⟩,
          ⟨(some 35), .mov, [.tmp 34], none⟩,
          ⟨(some 36), .faddr 2, [.tmp 4], (some (35, false))⟩,
          ⟨(some 37), .load 1 false, [.tmp 36], (some (35, false))⟩,
          ⟨(some 38), .cmp .gtr, [.tmp 37, .const (.int .i64 4)], (some (35, false))⟩,
          ⟨(some 39), .pick, [.tmp 35, .const (.bool true), .tmp 38], none⟩,
          ⟨(some 40), .mov, [.tmp 39], none⟩,
          ⟨(some 41), .faddr 3, [.tmp 4], (some (40, false))⟩,
          ⟨(some 42), .load 1 false, [.tmp 41], (some (40, false))⟩,
          ⟨(some 43), .cmp .lss, [.tmp 42, .const (.int .i64 1)], (some (40, false))⟩,
          ⟨(some 44), .pick, [.tmp 40, .const (.bool true), .tmp 43], none⟩,
          ⟨(some 45), .mov, [.tmp 44], none⟩,
          ⟨(some 46), .faddr 3, [.tmp 4], (some (45, false))⟩,
          ⟨(some 47), .load 1 false, [.tmp 46], (some (45, false))⟩,
          ⟨(some 48), .cmp .gtr, [.tmp 47, .const (.int .i64 5)], (some (45, false))⟩,
          ⟨(some 49), .pick, [.tmp 45, .const (.bool true), .tmp 48], none⟩,
          ⟨(some 50), .mov, [.tmp 49], none⟩,
          ⟨(some 51), .faddr 4, [.tmp 4], (some (50, false))⟩,
          ⟨(some 52), .load 1 false, [.tmp 51], (some (50, false))⟩,
          ⟨(some 53), .cmp .lss, [.tmp 52, .const (.int .i64 0)], (some (50, false))⟩,
          ⟨(some 54), .pick, [.tmp 50, .const (.bool true), .tmp 53], none⟩,
          ⟨(some 55), .mov, [.tmp 54], none⟩,
          ⟨(some 56), .faddr 4, [.tmp 4], (some (55, false))⟩,
          ⟨(some 57), .load 1 false, [.tmp 56], (some (55, false))⟩,
          ⟨(some 58), .cmp .gtr, [.tmp 57, .const (.int .i64 9999)], (some (55, false))⟩,
          ⟨(some 59), .pick, [.tmp 55, .const (.bool true), .tmp 58], none⟩,
          ⟨(some 60), .mov, [.tmp 59], none⟩,
          ⟨(some 61), .faddr 5, [.tmp 4], (some (60, false))⟩,
          ⟨(some 62), .load 1 false, [.tmp 61], (some (60, false))⟩,
          ⟨(some 63), .cmp .lss, [.tmp 62, .const (.int .i64 0)], (some (60, false))⟩,
          ⟨(some 64), .pick, [.tmp 60, .const (.bool true), .tmp 63], none⟩,
          ⟨(some 65), .mov, [.tmp 64], none⟩,
          ⟨(some 66), .faddr 5, [.tmp 4], (some (65, false))⟩,
          ⟨(some 67), .load 1 false, [.tmp 66], (some (65, false))⟩,
          ⟨(some 68), .cmp .gtr, [.tmp 67, .const (.int .i64 20000000)], (some (65, false))⟩,
          ⟨(some 69), .pick, [.tmp 65, .const (.bool true), .tmp 68], none⟩] false)
        (.cond (.tmp 69)
          (.seq (.ops [
            ⟨(some 2), .mov, [.const (.int .i64 2)], none⟩] false)
          .ret)
          .skip))
        (.seq (.seq (.ops [
          ⟨(some 5), .mov, [.const (.int .i64 0)], none⟩] false)
        (.block 2
          (.loop
            (.seq (.seq (.ops [
              ⟨(some 70), .mov, [.tmp 5], none⟩,
              ⟨(some 71), .mov, [.tmp 3], none⟩,
              ⟨(some 72), .cmp .lss, [.tmp 70, .tmp 71], none⟩] false)
            (.cond (.tmp 72)
              .skip
              (.exit 2)))
            (.seq (.block 3
              (.seq (.ops [
                ⟨(some 75), .mov, [.tmp 0], none⟩,
                ⟨(some 76), .mov, [.tmp 5], none⟩,
                ⟨(some 77), .idx 6, [.tmp 75, .tmp 76], none⟩,
                ⟨(some 78), .faddr 0, [.tmp 77], none⟩,
                ⟨(some 79), .load 1 false, [.tmp 78], none⟩,
                ⟨(some 80), .faddr 0, [.tmp 4], none⟩,
                ⟨(some 81), .load 1 false, [.tmp 80], none⟩,
                ⟨(some 82), .cmp .eql, [.tmp 79, .tmp 81], none⟩] true)
              (.cond (.tmp 82)
                (.seq (.ops [
                  ⟨(some 2), .mov, [.const (.int .i64 7)], none⟩] false)
                .ret)
                .skip)))
            (.ops [
              ⟨(some 73), .mov, [.tmp 5], none⟩,
              ⟨(some 74), .bin .add .i64 false, [.tmp 73, .const (.int .i64 1)], none⟩,
              ⟨(some 5), .mov, [.tmp 74], none⟩] false))))))
        (.seq (.seq (.ops [
          ⟨(some 83), .faddr 4, [.tmp 4], none⟩,
          ⟨(some 84), .load 1 false, [.tmp 83], none⟩,
          ⟨(some 85), .cmp .eql, [.tmp 84, .const (.int .i64 0)], none⟩,
          ⟨(some 86), .load 6 true, [.tmp 4], none⟩,
          ⟨(some 87), .call 33, [.tmp 86], none⟩,
          ⟨(some 88), .eqb true, [.tmp 85, .tmp 87], none⟩] true)
        (.cond (.tmp 88)
          (.seq (.ops [
            ⟨(some 2), .mov, [.const (.int .i64 10)], none⟩] false)
          .ret)
          .skip))
        (.seq (.ops [
          ⟨(some 6), .mov, [.const (.int .i64 0)], none⟩] false)
        (.block 4
          (.loop
            (.seq (.seq (.ops [
              ⟨(some 89), .mov, [.tmp 6], none⟩,
              ⟨(some 90), .mov, [.tmp 3], none⟩,
              ⟨(some 91), .cmp .lss, [.tmp 89, .tmp 90], none⟩] false)
            (.cond (.tmp 91)
              .skip
              (.exit 4)))
            (.seq (.block 5
              (.seq (.ops [
                ⟨(some 94), .faddr 4, [.tmp 4], none⟩,
                ⟨(some 95), .load 1 false, [.tmp 94], none⟩,
                ⟨(some 96), .cmp .neq, [.tmp 95, .const (.int .i64 0)], none⟩,
                ⟨(some 97), .mov, [.tmp 96], none⟩,
                ⟨(some 98), .mov, [.tmp 0], (some (97, true))⟩,
                ⟨(some 99), .mov, [.tmp 6], (some (97, true))⟩,
                ⟨(some 100), .idx 6, [.tmp 98, .tmp 99], (some (97, true))⟩,
                ⟨(some 101), .faddr 4, [.tmp 100], (some (97, true))⟩,
                ⟨(some 102), .load 1 false, [.tmp 101], (some (97, true))⟩,
                ⟨(some 103), .faddr 4, [.tmp 4], (some (97, true))⟩,
                ⟨(some 104), .load 1 false, [.tmp 103], (some (97, true))⟩,
                ⟨(some 105), .cmp .eql, [.tmp 102, .tmp 104], (some (97, true))⟩,
                ⟨(some 106), .pick, [.tmp 97, .tmp 105, .const (.bool false)], none⟩] true)
              (.cond (.tmp 106)
                (.seq (.ops [
                  ⟨(some 2), .mov, [.const (.int .i64 15)], none⟩] false)
                .ret)
                .skip)))
            (.ops [
              ⟨(some 92), .mov, [.tmp 6], none⟩,
              ⟨(some 93), .bin .add .i64 false, [.tmp 92, .const (.int .i64 1)], none⟩,
              ⟨(some 6), .mov, [.tmp 93], none⟩] false)))))))))))
      (.ops [
        ⟨(some 14), .mov, [.tmp 3], none⟩,
        ⟨(some 15), .bin .add .i64 false, [.tmp 14, .const (.int .i64 1)], none⟩,
        ⟨(some 3), .mov, [.tmp 15], none⟩] false))))))
  (.seq (.ops [
    ⟨(some 2), .mov, [.const (.int .i64 0)], none⟩] false)
  .ret))))⟩
theorem rrightLow : lowF Try.prog {} Try.f11 = some rrightIr := by kernel_rfl
def rrightS : Spec := spec (List Inc) (fun l => [L 6 (l.map encI)]) (fun l => l.length ≤ 9223372036854775807) (fun l => I (rightI l))
theorem rrightV : fnV Try.prog rrightIr rrightS := by
  intro (l : List Inc) hl0
  replace hl1 : l.length ≤ 9223372036854775807 := hl0
  have hl : (l.map encI).length = l.length := List.length_map ..
  show vc _ _ _ _ ⟨argEnv 0 [L 6 (l.map encI)], [], 0⟩
  by_cases hb : 64 < l.length
  · repeat' ((conv => whnf); first | (refine ⟨fun h => ?_, fun h => ?_⟩ <;> try (exfalso; first | omega | exact absurd h (by decide) | exact h rfl | exact absurd (show true = false from h) (by decide) | exact absurd (show false = true from h) (by decide))) | fail | fail)
    all_goals (refine ⟨[], rfl, trivial, congrArg (CV.int .i64) ?_⟩; exact ((show rightI l = 4 from if_pos hb)).symm)
  have hR : rightI l = fe (icE l) l.length := if_neg hb
  repeat' ((conv => whnf); first | (refine ⟨fun h => ?_, fun h => ?_⟩ <;> try (exfalso; first | omega | exact absurd h (by decide) | exact h rfl | exact absurd (show true = false from h) (by decide) | exact absurd (show false = true from h) (by decide))) | fail | fail)
  refine ⟨Nat, fun xq => ⟨[(0, L 6 (l.map encI)), (3, I xq)], [], 0⟩, fun xq => xq ≤ l.length ∧ fe (icE l) xq = 0, fun xq => l.length - xq, ⟨0, ?_, [], ⟨⟨rfl, rfl⟩, ⟨⟨rfl, rfl⟩, trivial⟩⟩, trivial, rfl, rfl, rfl⟩, ?_⟩
  · (try dsimp only); exact ⟨Nat.zero_le _, rfl⟩
  rintro k hk
  obtain ⟨hk, h0⟩ : k ≤ l.length ∧ fe (icE l) k = 0 := hk
  (try dsimp only)
  by_cases hkl : k < l.length
  · obtain ⟨x, hx⟩ := getElem_some hkl
    have hE : icE l k = if ¬ incP x then 2 else if (l.take k).any (idB x.id) = true then 7 else if ¬ (x.team = 0 ↔ freeP x) then 10 else if x.team ≠ 0 ∧ (l.take k).any (teamB x.team) = true then 15 else 0 := by unfold icE; rw [at_of hx]
    have hp : incP x = ((1 ≤ x.id ∧ x.id ≤ 9999) ∧ (1 ≤ x.run ∧ x.run ≤ 9999) ∧ (0 ≤ x.tri ∧ x.tri ≤ 4) ∧ (1 ≤ x.st ∧ x.st ≤ 5) ∧ (0 ≤ x.team ∧ x.team ≤ 9999) ∧ 0 ≤ x.since ∧ x.since ≤ 20000000) := rfl
    by_cases hI : incP x
    · rw [if_neg (Decidable.not_not.2 hI)] at hE
      rw [hp] at hI
      have d1 : decide (1 ≤ x.id ∧ x.id ≤ 9999) = true := decide_eq_true hI.1
      have d2 : decide (1 ≤ x.run ∧ x.run ≤ 9999) = true := decide_eq_true hI.2.1
      repeat' ((conv => whnf); first | (refine ⟨fun h => ?_, fun h => ?_⟩ <;> try (exfalso; first | omega | exact absurd h (by decide) | exact h rfl | exact absurd (show true = false from h) (by decide) | exact absurd (show false = true from h) (by decide))) | (refine ⟨by omega, fun r hrr => ?_⟩; first | ((have hre : r = encI x := by (first | exact get_row hrr hx | fail)); subst hre)) | (refine ⟨_, rid_h, x.id, trivial, leVs_of_eq rfl, .inl rfl, rfl, ?_⟩; show norm (B (decide (1 ≤ x.id ∧ x.id ≤ 9999))) _; rw [d1]) | (refine ⟨_, rid_h, x.run, trivial, leVs_of_eq rfl, .inl rfl, rfl, ?_⟩; show norm (B (decide (1 ≤ x.run ∧ x.run ≤ 9999))) _; rw [d2]) | fail | fail)
      refine ⟨Nat, fun xq => ⟨[(0, L 6 (l.map encI)), (3, I k), (4, .bp 0 0), (5, I xq)], [(0, .box ((encI x).map .c))], 1⟩, fun xq => xq ≤ k ∧ ∀ y ∈ l.take xq, idB x.id y = false, fun xq => k - xq, ⟨0, ?_, [], ⟨⟨rfl, rfl⟩, ⟨⟨rfl, rfl⟩, ⟨⟨rfl, rfl⟩, ⟨⟨rfl, rfl⟩, trivial⟩⟩⟩⟩, ⟨⟨rfl, rfl, rfl⟩, trivial⟩, rfl, rfl, rfl⟩, ?_⟩
      · (try dsimp only); exact ⟨Nat.zero_le _, by simp⟩
      rintro j hk
      obtain ⟨hj, hn⟩ : j ≤ k ∧ ∀ y ∈ l.take j, idB x.id y = false := hk
      (try dsimp only)
      by_cases hjk : j < k
      · obtain ⟨y, hy⟩ := getElem_some (show j < l.length by omega)
        by_cases he : y.id = x.id
        · replace hE := hE.trans (if_pos (any_yes hjk hy (show idB x.id y = true from decide_eq_true he)))
          repeat' ((conv => whnf); first | (refine ⟨fun h => ?_, fun h => ?_⟩ <;> try (exfalso; first | omega | exact absurd h (by decide) | exact h rfl | exact absurd (show true = false from h) (by decide) | exact absurd (show false = true from h) (by decide))) | (refine ⟨by omega, fun r hrr => ?_⟩; first | ((have hre : r = encI y := by (first | exact get_row hrr hy | fail)); subst hre)) | fail | fail)
          all_goals (refine ⟨[], rfl, trivial, congrArg (CV.int .i64) ?_⟩; exact (hR.trans (fe_hit hkl h0 hE (by decide))).symm)
        · repeat' ((conv => whnf); first | (refine ⟨fun h => ?_, fun h => ?_⟩ <;> try (exfalso; first | omega | exact absurd h (by decide) | exact h rfl | exact absurd (show true = false from h) (by decide) | exact absurd (show false = true from h) (by decide))) | (refine ⟨by omega, fun r hrr => ?_⟩; first | ((have hre : r = encI y := by (first | exact get_row hrr hy | fail)); subst hre)) | (refine ⟨j + 1, ⟨?_, by (try dsimp only); omega⟩, [], ⟨⟨rfl, rfl⟩, ⟨⟨rfl, rfl⟩, ⟨⟨rfl, rfl⟩, ⟨⟨rfl, rfl⟩, trivial⟩⟩⟩⟩, ⟨⟨rfl, rfl, rfl⟩, trivial⟩, rfl, rfl, rfl⟩; (try dsimp only); exact ⟨by omega, first_step hy hn (decide_eq_false he)⟩) | refine ⟨⟨by omega, by omega⟩, ?_⟩ | fail)
      · have hjn : j = k := by omega
        subst hjn
        rw [if_neg (by rw [any_no hn]; decide)] at hE
        cases d3 : decide (freeP x) with
        | false =>
          have hfp : ¬ (x.st = 1 ∨ x.st = 5) := of_decide_eq_false d3
          by_cases hz : x.team = 0
          · have hne : ¬ (x.team = 0 ↔ freeP x) := fun h => hfp (h.1 hz)
            repeat' ((conv => whnf); first | (refine ⟨fun h => ?_, fun h => ?_⟩ <;> try (exfalso; first | omega | exact absurd h (by decide) | exact h rfl | exact absurd (show true = false from h) (by decide) | exact absurd (show false = true from h) (by decide))) | (refine ⟨_, rfree_h, x, trivial, leVs_of_eq rfl, .inl rfl, rfl, ?_⟩; show norm (B (decide (freeP x))) _; rw [d3]) | fail | fail)
            all_goals (refine ⟨[], rfl, trivial, congrArg (CV.int .i64) ?_⟩; exact (hR.trans (fe_hit hkl h0 (hE.trans (if_pos hne)) (by decide))).symm)
          · rw [if_neg (Decidable.not_not.2 (show x.team = 0 ↔ freeP x from ⟨fun h => absurd h hz, fun h => absurd h hfp⟩))] at hE
            repeat' ((conv => whnf); first | (refine ⟨fun h => ?_, fun h => ?_⟩ <;> try (exfalso; first | omega | exact absurd h (by decide) | exact h rfl | exact absurd (show true = false from h) (by decide) | exact absurd (show false = true from h) (by decide))) | (refine ⟨_, rfree_h, x, trivial, leVs_of_eq rfl, .inl rfl, rfl, ?_⟩; show norm (B (decide (freeP x))) _; rw [d3]) | fail | fail)
            refine ⟨Nat, fun xq => ⟨[(0, L 6 (l.map encI)), (3, I j), (4, .bp 0 0), (6, I xq)], [(0, .box ((encI x).map .c))], 1⟩, fun xq => xq ≤ j ∧ (x.team ≠ 0 → ∀ y ∈ l.take xq, teamB x.team y = false), fun xq => j - xq, ⟨0, ?_, [], ⟨⟨rfl, rfl⟩, ⟨⟨rfl, rfl⟩, ⟨⟨rfl, rfl⟩, ⟨⟨rfl, rfl⟩, trivial⟩⟩⟩⟩, ⟨⟨rfl, rfl, rfl⟩, trivial⟩, rfl, rfl, rfl⟩, ?_⟩
            · (try dsimp only); exact ⟨Nat.zero_le _, by simp⟩
            rintro i hk
            obtain ⟨hi, hm⟩ : i ≤ j ∧ (x.team ≠ 0 → ∀ y ∈ l.take i, teamB x.team y = false) := hk
            (try dsimp only)
            by_cases hij : i < j
            · obtain ⟨y, hy⟩ := getElem_some (show i < l.length by omega)
              by_cases hz' : x.team = 0
              · repeat' ((conv => whnf); first | (refine ⟨fun h => ?_, fun h => ?_⟩ <;> try (exfalso; first | omega | exact absurd h (by decide) | exact h rfl | exact absurd (show true = false from h) (by decide) | exact absurd (show false = true from h) (by decide))) | (refine ⟨by omega, fun r hrr => ?_⟩; first | ((have hre : r = encI y := by (first | exact get_row hrr hy | fail)); subst hre)) | (refine ⟨i + 1, ⟨?_, by (try dsimp only); omega⟩, [], ⟨⟨rfl, rfl⟩, ⟨⟨rfl, rfl⟩, ⟨⟨rfl, rfl⟩, ⟨⟨rfl, rfl⟩, trivial⟩⟩⟩⟩, ⟨⟨rfl, rfl, rfl⟩, trivial⟩, rfl, rfl, rfl⟩; (try dsimp only); exact ⟨by omega, fun h => absurd hz' h⟩) | refine ⟨⟨by omega, by omega⟩, ?_⟩ | fail)
              · by_cases he : y.team = x.team
                · replace hE := hE.trans (if_pos ⟨hz', any_yes hij hy (show teamB x.team y = true from decide_eq_true he)⟩)
                  repeat' ((conv => whnf); first | (refine ⟨fun h => ?_, fun h => ?_⟩ <;> try (exfalso; first | omega | exact absurd h (by decide) | exact h rfl | exact absurd (show true = false from h) (by decide) | exact absurd (show false = true from h) (by decide))) | (refine ⟨by omega, fun r hrr => ?_⟩; first | ((have hre : r = encI y := by (first | exact get_row hrr hy | fail)); subst hre)) | fail | fail)
                  all_goals (refine ⟨[], rfl, trivial, congrArg (CV.int .i64) ?_⟩; exact (hR.trans (fe_hit hkl h0 hE (by decide))).symm)
                · repeat' ((conv => whnf); first | (refine ⟨fun h => ?_, fun h => ?_⟩ <;> try (exfalso; first | omega | exact absurd h (by decide) | exact h rfl | exact absurd (show true = false from h) (by decide) | exact absurd (show false = true from h) (by decide))) | (refine ⟨by omega, fun r hrr => ?_⟩; first | ((have hre : r = encI y := by (first | exact get_row hrr hy | fail)); subst hre)) | (refine ⟨i + 1, ⟨?_, by (try dsimp only); omega⟩, [], ⟨⟨rfl, rfl⟩, ⟨⟨rfl, rfl⟩, ⟨⟨rfl, rfl⟩, ⟨⟨rfl, rfl⟩, trivial⟩⟩⟩⟩, ⟨⟨rfl, rfl, rfl⟩, trivial⟩, rfl, rfl, rfl⟩; (try dsimp only); exact ⟨by omega, fun h => first_step hy (hm h) (decide_eq_false he)⟩) | refine ⟨⟨by omega, by omega⟩, ?_⟩ | fail)
            · have hin : i = j := by omega
              subst hin
              repeat' ((conv => whnf); first | (refine ⟨fun h => ?_, fun h => ?_⟩ <;> try (exfalso; first | omega | exact absurd h (by decide) | exact h rfl | exact absurd (show true = false from h) (by decide) | exact absurd (show false = true from h) (by decide))) | (refine ⟨i + 1, ⟨?_, by (try dsimp only); omega⟩, [], ⟨⟨rfl, rfl⟩, ⟨⟨rfl, rfl⟩, trivial⟩⟩, trivial, rfl, rfl, rfl⟩; (try dsimp only); exact ⟨by omega, fe_go h0 (hE.trans (if_neg (fun h => by rw [any_no (hm h.1)] at h; exact absurd h.2 (by decide))))⟩) | refine ⟨⟨by omega, by omega⟩, ?_⟩ | fail)
        | true =>
          have hfp : x.st = 1 ∨ x.st = 5 := of_decide_eq_true d3
          by_cases hz : x.team = 0
          · rw [if_neg (Decidable.not_not.2 (show x.team = 0 ↔ freeP x from ⟨fun _ => hfp, fun _ => hz⟩))] at hE
            repeat' ((conv => whnf); first | (refine ⟨fun h => ?_, fun h => ?_⟩ <;> try (exfalso; first | omega | exact absurd h (by decide) | exact h rfl | exact absurd (show true = false from h) (by decide) | exact absurd (show false = true from h) (by decide))) | (refine ⟨_, rfree_h, x, trivial, leVs_of_eq rfl, .inl rfl, rfl, ?_⟩; show norm (B (decide (freeP x))) _; rw [d3]) | fail | fail)
            refine ⟨Nat, fun xq => ⟨[(0, L 6 (l.map encI)), (3, I j), (4, .bp 0 0), (6, I xq)], [(0, .box ((encI x).map .c))], 1⟩, fun xq => xq ≤ j ∧ (x.team ≠ 0 → ∀ y ∈ l.take xq, teamB x.team y = false), fun xq => j - xq, ⟨0, ?_, [], ⟨⟨rfl, rfl⟩, ⟨⟨rfl, rfl⟩, ⟨⟨rfl, rfl⟩, ⟨⟨rfl, rfl⟩, trivial⟩⟩⟩⟩, ⟨⟨rfl, rfl, rfl⟩, trivial⟩, rfl, rfl, rfl⟩, ?_⟩
            · (try dsimp only); exact ⟨Nat.zero_le _, by simp⟩
            rintro i hk
            obtain ⟨hi, hm⟩ : i ≤ j ∧ (x.team ≠ 0 → ∀ y ∈ l.take i, teamB x.team y = false) := hk
            (try dsimp only)
            by_cases hij : i < j
            · obtain ⟨y, hy⟩ := getElem_some (show i < l.length by omega)
              by_cases hz' : x.team = 0
              · repeat' ((conv => whnf); first | (refine ⟨fun h => ?_, fun h => ?_⟩ <;> try (exfalso; first | omega | exact absurd h (by decide) | exact h rfl | exact absurd (show true = false from h) (by decide) | exact absurd (show false = true from h) (by decide))) | (refine ⟨by omega, fun r hrr => ?_⟩; first | ((have hre : r = encI y := by (first | exact get_row hrr hy | fail)); subst hre)) | (refine ⟨i + 1, ⟨?_, by (try dsimp only); omega⟩, [], ⟨⟨rfl, rfl⟩, ⟨⟨rfl, rfl⟩, ⟨⟨rfl, rfl⟩, ⟨⟨rfl, rfl⟩, trivial⟩⟩⟩⟩, ⟨⟨rfl, rfl, rfl⟩, trivial⟩, rfl, rfl, rfl⟩; (try dsimp only); exact ⟨by omega, fun h => absurd hz' h⟩) | refine ⟨⟨by omega, by omega⟩, ?_⟩ | fail)
              · by_cases he : y.team = x.team
                · replace hE := hE.trans (if_pos ⟨hz', any_yes hij hy (show teamB x.team y = true from decide_eq_true he)⟩)
                  repeat' ((conv => whnf); first | (refine ⟨fun h => ?_, fun h => ?_⟩ <;> try (exfalso; first | omega | exact absurd h (by decide) | exact h rfl | exact absurd (show true = false from h) (by decide) | exact absurd (show false = true from h) (by decide))) | (refine ⟨by omega, fun r hrr => ?_⟩; first | ((have hre : r = encI y := by (first | exact get_row hrr hy | fail)); subst hre)) | fail | fail)
                  all_goals (refine ⟨[], rfl, trivial, congrArg (CV.int .i64) ?_⟩; exact (hR.trans (fe_hit hkl h0 hE (by decide))).symm)
                · repeat' ((conv => whnf); first | (refine ⟨fun h => ?_, fun h => ?_⟩ <;> try (exfalso; first | omega | exact absurd h (by decide) | exact h rfl | exact absurd (show true = false from h) (by decide) | exact absurd (show false = true from h) (by decide))) | (refine ⟨by omega, fun r hrr => ?_⟩; first | ((have hre : r = encI y := by (first | exact get_row hrr hy | fail)); subst hre)) | (refine ⟨i + 1, ⟨?_, by (try dsimp only); omega⟩, [], ⟨⟨rfl, rfl⟩, ⟨⟨rfl, rfl⟩, ⟨⟨rfl, rfl⟩, ⟨⟨rfl, rfl⟩, trivial⟩⟩⟩⟩, ⟨⟨rfl, rfl, rfl⟩, trivial⟩, rfl, rfl, rfl⟩; (try dsimp only); exact ⟨by omega, fun h => first_step hy (hm h) (decide_eq_false he)⟩) | refine ⟨⟨by omega, by omega⟩, ?_⟩ | fail)
            · have hin : i = j := by omega
              subst hin
              repeat' ((conv => whnf); first | (refine ⟨fun h => ?_, fun h => ?_⟩ <;> try (exfalso; first | omega | exact absurd h (by decide) | exact h rfl | exact absurd (show true = false from h) (by decide) | exact absurd (show false = true from h) (by decide))) | (refine ⟨i + 1, ⟨?_, by (try dsimp only); omega⟩, [], ⟨⟨rfl, rfl⟩, ⟨⟨rfl, rfl⟩, trivial⟩⟩, trivial, rfl, rfl, rfl⟩; (try dsimp only); exact ⟨by omega, fe_go h0 (hE.trans (if_neg (fun h => by rw [any_no (hm h.1)] at h; exact absurd h.2 (by decide))))⟩) | refine ⟨⟨by omega, by omega⟩, ?_⟩ | fail)
          · have hne : ¬ (x.team = 0 ↔ freeP x) := fun h => hz (h.2 hfp)
            repeat' ((conv => whnf); first | (refine ⟨fun h => ?_, fun h => ?_⟩ <;> try (exfalso; first | omega | exact absurd h (by decide) | exact h rfl | exact absurd (show true = false from h) (by decide) | exact absurd (show false = true from h) (by decide))) | (refine ⟨_, rfree_h, x, trivial, leVs_of_eq rfl, .inl rfl, rfl, ?_⟩; show norm (B (decide (freeP x))) _; rw [d3]) | fail | fail)
            all_goals (refine ⟨[], rfl, trivial, congrArg (CV.int .i64) ?_⟩; exact (hR.trans (fe_hit hkl h0 (hE.trans (if_pos hne)) (by decide))).symm)
    · replace hE := hE.trans (if_pos hI)
      rw [hp] at hI
      cases d1 : decide (1 ≤ x.id ∧ x.id ≤ 9999) with
      | false =>
        repeat' ((conv => whnf); first | (refine ⟨fun h => ?_, fun h => ?_⟩ <;> try (exfalso; first | omega | exact absurd h (by decide) | exact h rfl | exact absurd (show true = false from h) (by decide) | exact absurd (show false = true from h) (by decide))) | (refine ⟨by omega, fun r hrr => ?_⟩; first | ((have hre : r = encI x := by (first | exact get_row hrr hx | fail)); subst hre)) | (refine ⟨_, rid_h, x.id, trivial, leVs_of_eq rfl, .inl rfl, rfl, ?_⟩; show norm (B (decide (1 ≤ x.id ∧ x.id ≤ 9999))) _; rw [d1]) | fail | fail)
        all_goals (refine ⟨[], rfl, trivial, congrArg (CV.int .i64) ?_⟩; exact (hR.trans (fe_hit hkl h0 hE (by decide))).symm)
      | true =>
        have w1 := of_decide_eq_true d1
        cases d2 : decide (1 ≤ x.run ∧ x.run ≤ 9999) with
        | false =>
          repeat' ((conv => whnf); first | (refine ⟨fun h => ?_, fun h => ?_⟩ <;> try (exfalso; first | omega | exact absurd h (by decide) | exact h rfl | exact absurd (show true = false from h) (by decide) | exact absurd (show false = true from h) (by decide))) | (refine ⟨by omega, fun r hrr => ?_⟩; first | ((have hre : r = encI x := by (first | exact get_row hrr hx | fail)); subst hre)) | (refine ⟨_, rid_h, x.id, trivial, leVs_of_eq rfl, .inl rfl, rfl, ?_⟩; show norm (B (decide (1 ≤ x.id ∧ x.id ≤ 9999))) _; rw [d1]) | (refine ⟨_, rid_h, x.run, trivial, leVs_of_eq rfl, .inl rfl, rfl, ?_⟩; show norm (B (decide (1 ≤ x.run ∧ x.run ≤ 9999))) _; rw [d2]) | fail | fail)
          all_goals (refine ⟨[], rfl, trivial, congrArg (CV.int .i64) ?_⟩; exact (hR.trans (fe_hit hkl h0 hE (by decide))).symm)
        | true =>
          have w2 := of_decide_eq_true d2
          repeat' ((conv => whnf); first | (refine ⟨fun h => ?_, fun h => ?_⟩ <;> try (exfalso; first | omega | exact absurd h (by decide) | exact h rfl | exact absurd (show true = false from h) (by decide) | exact absurd (show false = true from h) (by decide))) | (refine ⟨by omega, fun r hrr => ?_⟩; first | ((have hre : r = encI x := by (first | exact get_row hrr hx | fail)); subst hre)) | (refine ⟨_, rid_h, x.id, trivial, leVs_of_eq rfl, .inl rfl, rfl, ?_⟩; show norm (B (decide (1 ≤ x.id ∧ x.id ≤ 9999))) _; rw [d1]) | (refine ⟨_, rid_h, x.run, trivial, leVs_of_eq rfl, .inl rfl, rfl, ?_⟩; show norm (B (decide (1 ≤ x.run ∧ x.run ≤ 9999))) _; rw [d2]) | fail | fail)
          all_goals (refine ⟨[], rfl, trivial, congrArg (CV.int .i64) ?_⟩; exact (hR.trans (fe_hit hkl h0 hE (by decide))).symm)
  · have hkn : k = l.length := by omega
    subst hkn
    repeat' ((conv => whnf); first | (refine ⟨fun h => ?_, fun h => ?_⟩ <;> try (exfalso; first | omega | exact absurd h (by decide) | exact h rfl | exact absurd (show true = false from h) (by decide) | exact absurd (show false = true from h) (by decide))) | fail | fail)
    all_goals (refine ⟨[], rfl, trivial, congrArg (CV.int .i64) ?_⟩; exact (hR.trans h0).symm)
theorem rright_h : Holds Try.prog 11 rrightS := holds_of mix Try.func11 rrightLow (fun _ => rfl) rrightV

end Go.Proofs.Ytoeichkblclfaaa
