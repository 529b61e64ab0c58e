/- Incidents: checks. -/
import Derived.Test.YtoeichkblclfaaaI1
import Derived.Test.YtoeichkblclfaaaT5
namespace Go.Proofs.Ytoeichkblclfaaa
open Go.RowKit
abbrev encI (r : Inc) : List CV := [.int .i64 r.id, .int .i64 r.run, .int .i64 r.tri, .int .i64 r.st, .int .i64 r.team, .int .i64 r.since]
abbrev aI (r : Inc) : SV := .agg ((encI r).map .c)

/-! skiarea/skiarearef57.id -/
def ridIr : IFn := ⟨9, [.tmp 2],
  (.seq (.ops [
    ⟨(some 2), .mov, [.const (.bool false)], none⟩] false)
  (.seq (.ops [
    ⟨(some 3), .mov, [.tmp 0], none⟩,
    ⟨(some 4), .cmp .geq, [.tmp 3, .const (.int .i64 1)], none⟩,
    ⟨(some 5), .mov, [.tmp 4], none⟩,
    ⟨(some 6), .mov, [.tmp 0], (some (5, true))⟩,
    ⟨(some 7), .cmp .leq, [.tmp 6, .const (.int .i64 9999)], (some (5, true))⟩,
    ⟨(some 8), .pick, [.tmp 5, .tmp 7, .const (.bool false)], none⟩,
    ⟨(some 2), .mov, [.tmp 8], none⟩] false)
  .ret))⟩
theorem ridLow : lowF Try.prog {} Try.f32 = some ridIr := by kernel_rfl
def ridS : Spec := spec Int (fun n => [I n]) (fun _ => True) (fun n => B (decide (1 ≤ n ∧ n ≤ 9999)))
theorem ridV : fnV Try.prog ridIr ridS := by
  intro (n : Int) hx
  repeat' ((conv => whnf); first | (refine ⟨fun h => ?_, fun h => ?_⟩ <;> try (exfalso; omega)) | refine ⟨[], rfl, trivial, congrArg CV.bool ?_⟩ | refine ⟨[], rfl, trivial, congrArg (CV.int .i64) ?_⟩ | refine ⟨⟨by omega, by omega⟩, ?_⟩ | refine ⟨by omega, ?_⟩ | fail)
  all_goals (first | rfl | refine (decide_eq_true ?_).symm | refine (decide_eq_false ?_).symm)
  all_goals (omega)
theorem rid_h : Holds Try.prog 32 ridS := holds_of mix Try.func32 ridLow (fun _ => rfl) ridV

/-! skiarea/skiarearef57.free -/
def rfreeIr : IFn := ⟨11, [.tmp 2],
  (.seq (.ops [
    ⟨(some 1), .box, [.tmp 0], none⟩,
    ⟨(some 2), .mov, [.const (.bool false)], none⟩] false)
  (.seq (.ops [
    ⟨(some 3), .faddr 3, [.tmp 1], none⟩,
    ⟨(some 4), .load 1 false, [.tmp 3], none⟩,
    ⟨(some 5), .cmp .eql, [.tmp 4, .const (.int .i64 1)], none⟩,
    ⟨(some 6), .mov, [.tmp 5], none⟩,
    ⟨(some 7), .faddr 3, [.tmp 1], (some (6, false))⟩,
    ⟨(some 8), .load 1 false, [.tmp 7], (some (6, false))⟩,
    ⟨(some 9), .cmp .eql, [.tmp 8, .const (.int .i64 5)], (some (6, false))⟩,
    ⟨(some 10), .pick, [.tmp 6, .const (.bool true), .tmp 9], none⟩,
    ⟨(some 2), .mov, [.tmp 10], none⟩] false)
  .ret))⟩
theorem rfreeLow : lowF Try.prog {} Try.f33 = some rfreeIr := by kernel_rfl
def rfreeS : Spec := spec Inc (fun x => [aI x]) (fun _ => True) (fun x => B (decide (freeP x)))
theorem rfreeV : fnV Try.prog rfreeIr rfreeS := by
  intro (x : Inc) _
  show vc _ _ _ _ ⟨argEnv 0 [aI x], [], 0⟩
  repeat' ((conv => whnf); first | (refine ⟨fun h => ?_, fun h => ?_⟩ <;> try (exfalso; first | omega | exact absurd h (by decide) | exact h rfl | exact absurd (show true = false from h) (by decide) | exact absurd (show false = true from h) (by decide))) | refine ⟨[], rfl, trivial, congrArg CV.bool ?_⟩ | fail)
  all_goals first | exact (decide_eq_true (show x.st = 1 ∨ x.st = 5 by omega)).symm | exact (decide_eq_false (show ¬ (x.st = 1 ∨ x.st = 5) by omega)).symm
theorem rfree_h : Holds Try.prog 33 rfreeS := holds_of mix Try.func33 rfreeLow (fun _ => rfl) rfreeV

/-! skiarea/incident.inRange -/
def inrngIr : IFn := ⟨61, [.tmp 2],
  (.seq (.ops [
    ⟨(some 1), .box, [.tmp 0], none⟩,
    ⟨(some 2), .mov, [.const (.bool false)], none⟩] false)
  (.seq (.ops [
    ⟨(some 3), .faddr 0, [.tmp 1], none⟩,
    ⟨(some 4), .load 1 false, [.tmp 3], none⟩,
    ⟨(some 5), .cmp .geq, [.tmp 4, .const (.int .i64 1)], none⟩,
    ⟨(some 6), .mov, [.tmp 5], none⟩,
    ⟨(some 7), .faddr 0, [.tmp 1], (some (6, true))⟩,
    ⟨(some 8), .load 1 false, [.tmp 7], (some (6, true))⟩,
    ⟨(some 9), .cmp .leq, [.tmp 8, .const (.int .i64 9999)], (some (6, true))⟩,
    ⟨(some 10), .pick, [.tmp 6, .tmp 9, .const (.bool false)], none⟩,
    ⟨(some 11), .mov, [.tmp 10], none⟩,
    ⟨(some 12), .faddr 1, [.tmp 1], (some (11, true))⟩,
    ⟨(some 13), .load 1 false, [.tmp 12], (some (11, true))⟩,
    ⟨(some 14), .cmp .geq, [.tmp 13, .const (.int .i64 1)], (some (11, true))⟩,
    ⟨(some 15), .pick, [.tmp 11, .tmp 14, .const (.bool false)], none⟩,
    ⟨(some 16), .mov, [.tmp 15], none⟩,
    ⟨(some 17), .faddr 1, [.tmp 1], (some (16, true))⟩,
    ⟨(some 18), .load 1 false, [.tmp 17], (some (16, true))⟩,
    ⟨(some 19), .cmp .leq, [.tmp 18, .const (.int .i64 9999)], (some (16, true))⟩,
    ⟨(some 20), .pick, [.tmp 16, .tmp 19, .const (.bool false)], none⟩,
    ⟨(some 21), .mov, [.tmp 20], none⟩,
    ⟨(some 22), .faddr 2, [.tmp 1], (some (21, true))⟩,
    ⟨(some 23), .load 1 false, [.tmp 22], (some (21, true))⟩,
    ⟨(some 24), .cmp .geq, [.tmp 23, .const (.int .i64 0)], (some (21, true))⟩,
    ⟨(some 25), .pick, [.tmp 21, .tmp 24, .const (.bool false)], none⟩,
    ⟨(some 26), .mov, [.tmp 25], none⟩,
    ⟨(some 27), .faddr 2, [.tmp 1], (some (26, true))⟩,
    ⟨(some 28), .load 1 false, [.tmp 27], (some (26, true))⟩,
    ⟨(some 29), .cmp .leq, [.tmp 28, .const (.int .i64 4)], (some (26, true))⟩,
    ⟨(some 30), .pick, [.tmp 26, .tmp 29, .const (.bool false)], none⟩,
    ⟨(some 31), .mov, [.tmp 30], none⟩,
    ⟨(some 32), .faddr 3, [.tmp 1], (some (31, true))⟩,
    ⟨(some 33), .load 1 false, [.tmp 32], (some (31, true))⟩,
    ⟨(some 34), .cmp .geq, [.tmp 33, .const (.int .i64 1)], (some (31, true))⟩,
    ⟨(some 35), .pick, [.tmp 31, .tmp 34, .const (.bool false)], none⟩,
    ⟨(some 36), .mov, [.tmp 35], none⟩,
    ⟨(some 37), .faddr 3, [.tmp 1], (some (36, true))⟩,
    ⟨(some 38), .load 1 false, [.tmp 37], (some (36, true))⟩,
    ⟨(some 39), .cmp .leq, [.tmp 38, .const (.int .i64 5)], (some (36, true))⟩,
    ⟨(some 40), .pick, [.tmp 36, .tmp 39, .const (.bool false)], none⟩,
    ⟨(some 41), .mov, [.tmp 40], none⟩,
    ⟨(some 42), .faddr 4, [.tmp 1], (some (41, true))⟩,
    ⟨(some 43), .load 1 false, [.tmp 42], (some (41, true))⟩,
    ⟨(some 44), .cmp .geq, [.tmp 43, .const (.int .i64 0)], (some (41, true))⟩,
    ⟨(some 45), .pick, [.tmp 41, .tmp 44, .const (.bool false)], none⟩,
    ⟨(some 46), .mov, [.tmp 45], none⟩,
    ⟨(some 47), .faddr 4, [.tmp 1], (some (46, true))⟩,
    ⟨(some 48), .load 1 false, [.tmp 47], (some (46, true))⟩,
    ⟨(some 49), .cmp .leq, [.tmp 48, .const (.int .i64 9999)], (some (46, true))⟩,
    ⟨(some 50), .pick, [.tmp 46, .tmp 49, .const (.bool false)], none⟩,
    ⟨(some 51), .mov, [.tmp 50], none⟩,
    ⟨(some 52), .faddr 5, [.tmp 1], (some (51, true))⟩,
    ⟨(some 53), .load 1 false, [.tmp 52], (some (51, true))⟩,
    ⟨(some 54), .cmp .geq, [.tmp 53, .const (.int .i64 0)], (some (51, true))⟩,
    ⟨(some 55), .pick, [.tmp 51, .tmp 54, .const (.bool false)], none⟩,
    ⟨(some 56), .mov, [.tmp 55], none⟩,
    ⟨(some 57), .faddr 5, [.tmp 1], (some (56, true))⟩,
    ⟨(some 58), .load 1 false, [.tmp 57], (some (56, true))⟩,
    ⟨(some 59), .cmp .leq, [.tmp 58, .const (.int .i64 20000000)], (some (56, true))⟩,
    ⟨(some 60), .pick, [.tmp 56, .tmp 59, .const (.bool false)], none⟩,
    ⟨(some 2), .mov, [.tmp 60], none⟩] false)
  .ret))⟩
theorem inrngLow : lowF Try.prog {} Try.f29 = some inrngIr := by kernel_rfl
def inrngS : Spec := spec Inc (fun x => [aI x]) (fun _ => True) (fun x => B (decide (incP x)))
theorem inrngV : fnV Try.prog inrngIr inrngS := by
  intro (x : Inc) _
  show vc _ _ _ _ ⟨argEnv 0 [aI x], [], 0⟩
  have hp : incP x = ((1 ≤ x.id ∧ x.id ≤ 9999) ∧ (1 ≤ x.run ∧ x.run ≤ 9999) ∧ (0 ≤ x.tri ∧ x.tri ≤ 4) ∧ (1 ≤ x.st ∧ x.st ≤ 5) ∧ (0 ≤ x.team ∧ x.team ≤ 9999) ∧ 0 ≤ x.since ∧ x.since ≤ 20000000) := rfl
  repeat' ((conv => whnf); first | (refine ⟨fun h => ?_, fun h => ?_⟩ <;> try (exfalso; first | omega | exact absurd h (by decide) | exact h rfl | exact absurd (show true = false from h) (by decide) | exact absurd (show false = true from h) (by decide))) | refine ⟨[], rfl, trivial, congrArg CV.bool ?_⟩ | fail)
  all_goals first | exact (decide_eq_true (by rw [hp]; omega)).symm | exact (decide_eq_false (by rw [hp]; omega)).symm
theorem inrng_h : Holds Try.prog 29 inrngS := holds_of mix Try.func29 inrngLow (fun _ => rfl) inrngV
abbrev predS (n : Int) (p : Inc → Bool) : Spec := spec Inc (fun x => [aI x, .rp [.int .i64 n]]) (fun _ => True) (fun x => B (p x))

/-! skiarea/incident.find$1 -/
def isidIr : IFn := ⟨8, [.tmp 3],
  (.seq (.ops [
    ⟨(some 2), .box, [.tmp 0], none⟩,
    ⟨(some 3), .mov, [.const (.bool false)], none⟩] false)
  (.seq (.ops [
    ⟨(some 4), .faddr 0, [.tmp 2], none⟩,
    ⟨(some 5), .load 1 false, [.tmp 4], none⟩,
    ⟨(some 6), .load 1 false, [.tmp 1], none⟩,
    ⟨(some 7), .cmp .eql, [.tmp 5, .tmp 6], none⟩,
    ⟨(some 3), .mov, [.tmp 7], none⟩] false)
  .ret))⟩
theorem isidLow : lowF Try.prog {} Try.f60 = some isidIr := by kernel_rfl
def isidS : Spec := spec (Inc × Int) (fun p => [aI p.1, .rp [.int .i64 p.2]]) (fun _ => True) (fun p => B (idB p.2 p.1))
theorem isidV : fnV Try.prog isidIr isidS := by
  intro ⟨(x : Inc), (n : Int)⟩ _
  show vc _ _ _ _ ⟨argEnv 0 [aI x, .rp [.int .i64 n]], [], 0⟩
  repeat' ((conv => whnf); first | (refine ⟨fun h => ?_, fun h => ?_⟩ <;> try (exfalso; first | omega | exact absurd h (by decide) | exact h rfl | exact absurd (show true = false from h) (by decide) | exact absurd (show false = true from h) (by decide))) | refine ⟨[], rfl, trivial, congrArg CV.bool ?_⟩ | fail)
  all_goals first | exact (decide_eq_true (show x.id = n by omega)).symm | exact (decide_eq_false (show ¬ (x.id = n) by omega)).symm
theorem isid_h : Holds Try.prog 60 isidS := holds_of mix Try.func60 isidLow (fun _ => rfl) isidV
theorem isid_c : callable Try.prog 60 = true := by kernel_rfl
theorem isid_p (n : Int) : Holds Try.prog 60 (predS n (idB n)) := fun x F w vs hp hF hr => isid_h (x, n) F w vs hp hF hr

/-! skiarea/incident.engaged$1 -/
def isteamIr : IFn := ⟨8, [.tmp 3],
  (.seq (.ops [
    ⟨(some 2), .box, [.tmp 0], none⟩,
    ⟨(some 3), .mov, [.const (.bool false)], none⟩] false)
  (.seq (.ops [
    ⟨(some 4), .faddr 4, [.tmp 2], none⟩,
    ⟨(some 5), .load 1 false, [.tmp 4], none⟩,
    ⟨(some 6), .load 1 false, [.tmp 1], none⟩,
    ⟨(some 7), .cmp .eql, [.tmp 5, .tmp 6], none⟩,
    ⟨(some 3), .mov, [.tmp 7], none⟩] false)
  .ret))⟩
theorem isteamLow : lowF Try.prog {} Try.f62 = some isteamIr := by kernel_rfl
def isteamS : Spec := spec (Inc × Int) (fun p => [aI p.1, .rp [.int .i64 p.2]]) (fun _ => True) (fun p => B (teamB p.2 p.1))
theorem isteamV : fnV Try.prog isteamIr isteamS := by
  intro ⟨(x : Inc), (n : Int)⟩ _
  show vc _ _ _ _ ⟨argEnv 0 [aI x, .rp [.int .i64 n]], [], 0⟩
  repeat' ((conv => whnf); first | (refine ⟨fun h => ?_, fun h => ?_⟩ <;> try (exfalso; first | omega | exact absurd h (by decide) | exact h rfl | exact absurd (show true = false from h) (by decide) | exact absurd (show false = true from h) (by decide))) | refine ⟨[], rfl, trivial, congrArg CV.bool ?_⟩ | fail)
  all_goals first | exact (decide_eq_true (show x.team = n by omega)).symm | exact (decide_eq_false (show ¬ (x.team = n) by omega)).symm
theorem isteam_h : Holds Try.prog 62 isteamS := holds_of mix Try.func62 isteamLow (fun _ => rfl) isteamV
theorem isteam_c : callable Try.prog 62 = true := by kernel_rfl
theorem isteam_p (n : Int) : Holds Try.prog 62 (predS n (teamB n)) := fun x F w vs hp hF hr => isteam_h (x, n) F w vs hp hF hr
structure PredX where
  l : List Inc
  f : Nat
  n : Int
  p : Inc → Bool
def PredX.ok (x : PredX) : Prop := x.l.length ≤ 9223372036854775807 ∧ callable Try.prog x.f = true ∧ Holds Try.prog x.f (predS x.n x.p)

/-! slices.IndexFunc[[]skiarea/api.Incident,skiarea/api.Incident] -/
def indexFIr : IFn := ⟨19, [.tmp 4],
  (.seq (.ops [
    ⟨(some 4), .mov, [.const (.int .i64 0)], none⟩] false)
  (.seq (.seq (.ops [
    ⟨(some 6), .mov, [.tmp 0], none⟩,
    ⟨(some 7), .len, [.tmp 6], none⟩,
    ⟨(some 8), .mov, [.const (.int .i64 0)], none⟩] false)
  (.block 0
    (.loop
      (.seq (.ops [
        ⟨(some 9), .cmp .lss, [.tmp 8, .tmp 7], none⟩] false)
      (.seq (.cond (.tmp 9)
        .skip
        (.exit 0))
      (.seq (.block 1
        (.seq (.ops [
          ⟨(some 10), .mov, [.tmp 8], none⟩,
          ⟨(some 5), .mov, [.tmp 10], none⟩] false)
        (.seq (.ops [
          ⟨(some 11), .mov, [.tmp 1], none⟩,
          ⟨(some 12), .mov, [.tmp 0], none⟩,
          ⟨(some 13), .mov, [.tmp 5], none⟩,
          ⟨(some 14), .idx 6, [.tmp 12, .tmp 13], none⟩,
          ⟨(some 15), .load 6 true, [.tmp 14], none⟩,
          ⟨(some 16), .callv, [.tmp 11, .tmp 15], none⟩] false)
        (.cond (.tmp 16)
          (.seq (.ops [
            ⟨(some 17), .mov, [.tmp 5], none⟩,
            ⟨(some 4), .mov, [.tmp 17], none⟩] false)
          .ret)
          .skip))))
      (.ops [
        ⟨(some 18), .bin .add .i64 false, [.tmp 8, .const (.int .i64 1)], none⟩,
        ⟨(some 8), .mov, [.tmp 18], none⟩] false)))))))
  (.seq (.ops [
    ⟨(some 4), .mov, [.const (.int .i64 (-1))], none⟩] false)
  .ret)))⟩
theorem indexFLow : lowF Try.prog {} Try.f59 = some indexFIr := by kernel_rfl
def indexFS : Spec := spec PredX (fun x => [L 6 (x.l.map encI), .fn x.f [.rp [.int .i64 x.n]]]) PredX.ok (fun x => I (ixF x.p x.l))
theorem indexFV : fnV Try.prog indexFIr indexFS := by
  intro ⟨(l : List Inc), (f : Nat), (n : Int), (p : Inc → Bool)⟩ ho
  obtain ⟨hl0, hc, hf⟩ : l.length ≤ 9223372036854775807 ∧ callable Try.prog f = true ∧ Holds Try.prog f (predS n p) := ho
  have hl : (l.map encI).length = l.length := List.length_map ..
  show vc _ _ _ _ ⟨argEnv 0 [L 6 (l.map encI), .fn f [.rp [.int .i64 n]]], [], 0⟩
  conv => whnf
  refine ⟨Nat, fun xq => ⟨[(0, L 6 (l.map encI)), (1, .fn f [.rp [.int .i64 n]]), (7, I (l.map encI).length), (8, I xq)], [], 0⟩, fun xq => xq ≤ l.length ∧ ∀ y ∈ l.take xq, p y = false, fun xq => l.length - xq, ⟨0, ?_, [], ⟨⟨rfl, rfl⟩, ⟨⟨rfl, rfl⟩, ⟨⟨rfl, rfl⟩, ⟨⟨rfl, rfl⟩, trivial⟩⟩⟩⟩, trivial, rfl, rfl, rfl⟩, ?_⟩
  · (try dsimp only); exact ⟨Nat.zero_le _, by simp⟩
  rintro k hk
  obtain ⟨hk, h0⟩ : k ≤ l.length ∧ ∀ y ∈ l.take k, p y = false := hk
  (try dsimp only)
  by_cases hkl : k < l.length
  · obtain ⟨x, hx⟩ := getElem_some hkl
    cases hp : p x with
    | true =>
      repeat' ((conv => whnf); first | (refine ⟨fun h => ?_, fun h => ?_⟩ <;> try (exfalso; first | omega | exact absurd h (by decide) | exact h rfl | exact absurd (show true = false from h) (by decide) | exact absurd (show false = true from h) (by decide))) | (refine ⟨by omega, fun r hrr => ?_⟩; first | ((have hre : r = encI x := by (first | exact get_row hrr hx | fail)); subst hre)) | (refine ⟨hc, _, hf, x, trivial, leVs_of_eq rfl, .inl rfl, rfl, ?_⟩; show norm (B (p x)) _; rw [hp]) | fail | fail)
      all_goals (refine ⟨[], rfl, trivial, congrArg (CV.int .i64) ?_⟩; exact (ix_hit hx h0 hp).symm)
    | false =>
      repeat' ((conv => whnf); first | (refine ⟨fun h => ?_, fun h => ?_⟩ <;> try (exfalso; first | omega | exact absurd h (by decide) | exact h rfl | exact absurd (show true = false from h) (by decide) | exact absurd (show false = true from h) (by decide))) | (refine ⟨by omega, fun r hrr => ?_⟩; first | ((have hre : r = encI x := by (first | exact get_row hrr hx | fail)); subst hre)) | (refine ⟨hc, _, hf, x, trivial, leVs_of_eq rfl, .inl rfl, rfl, ?_⟩; show norm (B (p x)) _; rw [hp]) | (refine ⟨k + 1, ⟨?_, by (try dsimp only); omega⟩, [], ⟨⟨rfl, rfl⟩, ⟨⟨rfl, rfl⟩, ⟨⟨rfl, rfl⟩, ⟨⟨rfl, rfl⟩, trivial⟩⟩⟩⟩, trivial, rfl, rfl, rfl⟩; (try dsimp only); exact ⟨by omega, first_step hx h0 hp⟩) | refine ⟨⟨by omega, by omega⟩, ?_⟩ | fail)
  · rw [take_end hkl] at h0
    repeat' ((conv => whnf); first | (refine ⟨fun h => ?_, fun h => ?_⟩ <;> try (exfalso; first | omega | exact absurd h (by decide) | exact h rfl | exact absurd (show true = false from h) (by decide) | exact absurd (show false = true from h) (by decide))) | fail | fail)
    all_goals (refine ⟨[], rfl, trivial, congrArg (CV.int .i64) ?_⟩; exact (ix_none h0).symm)
theorem indexF_h : Holds Try.prog 59 indexFS := holds_of mix Try.func59 indexFLow (fun _ => rfl) indexFV

/-! slices.ContainsFunc[[]skiarea/api.Incident,skiarea/api.Incident] -/
def contFIr : IFn := ⟨9, [.tmp 4],
  (.seq (.ops [
    ⟨(some 4), .mov, [.const (.bool false)], none⟩] false)
  (.seq (.ops [
    ⟨(some 5), .mov, [.tmp 0], none⟩,
    ⟨(some 6), .mov, [.tmp 1], none⟩,
    ⟨(some 7), .call 59, [.tmp 5, .tmp 6], none⟩,
    ⟨(some 8), .cmp .geq, [.tmp 7, .const (.int .i64 0)], none⟩,
    ⟨(some 4), .mov, [.tmp 8], none⟩] false)
  .ret))⟩
theorem contFLow : lowF Try.prog {} Try.f61 = some contFIr := by kernel_rfl
def contFS : Spec := spec PredX (fun x => [L 6 (x.l.map encI), .fn x.f [.rp [.int .i64 x.n]]]) PredX.ok (fun x => B (x.l.any x.p))
theorem contFV : fnV Try.prog contFIr contFS := by
  intro x hx
  show vc _ _ _ _ ⟨argEnv 0 [L 6 (x.l.map encI), .fn x.f [.rp [.int .i64 x.n]]], [], 0⟩
  have hr : I (ixF x.p x.l) = I (ixF x.p x.l) := rfl
  rcases ix_cases x.p x.l with ⟨h1, h2⟩ | ⟨k, y, h1, _, _, _, h2⟩
  all_goals
    repeat' ((conv => whnf); first | (refine ⟨fun h => ?_, fun h => ?_⟩ <;> try (exfalso; first | omega | exact absurd h (by decide) | exact h rfl | exact absurd (show true = false from h) (by decide) | exact absurd (show false = true from h) (by decide))) | (refine ⟨_, indexF_h, x, hx, leVs_of_eq rfl, .inl rfl, rfl, ?_⟩; show norm (I (ixF x.p x.l)) _; rw [h1]) | fail | fail)
    all_goals (refine ⟨[], rfl, trivial, congrArg CV.bool ?_⟩; exact (h2).symm)
theorem contF_h : Holds Try.prog 61 contFS := holds_of mix Try.func61 contFLow (fun _ => rfl) contFV

/-! skiarea/incident.find -/
def findIr : IFn := ⟨8, [.tmp 4],
  (.seq (.ops [
    ⟨(some 3), .box, [.tmp 1], none⟩,
    ⟨(some 4), .mov, [.const (.int .i64 0)], none⟩] false)
  (.seq (.ops [
    ⟨(some 5), .mov, [.tmp 0], none⟩,
    ⟨(some 6), .fn 60, [.tmp 3], none⟩,
    ⟨(some 7), .call 59, [.tmp 5, .tmp 6], none⟩,
    ⟨(some 4), .mov, [.tmp 7], none⟩] false)
  .ret))⟩
theorem findLow : lowF Try.prog {} Try.f30 = some findIr := by kernel_rfl
def findS : Spec := spec (List Inc × Int) (fun p => [L 6 (p.1.map encI), I p.2]) (fun p => p.1.length ≤ 9223372036854775807) (fun p => I (ixF (idB p.2) p.1))
theorem findV : fnV Try.prog findIr findS := by
  intro ⟨(l : List Inc), (n : Int)⟩ hx
  show vc _ _ _ _ ⟨argEnv 0 [L 6 (l.map encI), I n], [], 0⟩
  repeat' ((conv => whnf); first | (refine ⟨fun h => ?_, fun h => ?_⟩ <;> try (exfalso; first | omega | exact absurd h (by decide) | exact h rfl | exact absurd (show true = false from h) (by decide) | exact absurd (show false = true from h) (by decide))) | (refine ⟨_, indexF_h, ⟨l, 60, n, idB n⟩, ⟨hx, isid_c, isid_p n⟩, leVs_of_eq rfl, .inr rfl, rfl, ?_⟩; show norm (I (ixF (idB n) l)) _) | fail | fail)
  all_goals (refine ⟨[], rfl, trivial, congrArg (CV.int .i64) ?_⟩; exact (rfl).symm)
theorem find_h : Holds Try.prog 30 findS := holds_of mix Try.func30 findLow (fun _ => rfl) findV

/-! skiarea/incident.engaged -/
def engagedIr : IFn := ⟨8, [.tmp 4],
  (.seq (.ops [
    ⟨(some 3), .box, [.tmp 1], none⟩,
    ⟨(some 4), .mov, [.const (.bool false)], none⟩] false)
  (.seq (.ops [
    ⟨(some 5), .mov, [.tmp 0], none⟩,
    ⟨(some 6), .fn 62, [.tmp 3], none⟩,
    ⟨(some 7), .call 61, [.tmp 5, .tmp 6], none⟩,
    ⟨(some 4), .mov, [.tmp 7], none⟩] false)
  .ret))⟩
theorem engagedLow : lowF Try.prog {} Try.f31 = some engagedIr := by kernel_rfl
def engagedS : Spec := spec (List Inc × Int) (fun p => [L 6 (p.1.map encI), I p.2]) (fun p => p.1.length ≤ 9223372036854775807) (fun p => B (p.1.any (teamB p.2)))
theorem engagedV : fnV Try.prog engagedIr engagedS := by
  intro ⟨(l : List Inc), (n : Int)⟩ hx
  show vc _ _ _ _ ⟨argEnv 0 [L 6 (l.map encI), I n], [], 0⟩
  cases hd : l.any (teamB n)
  all_goals
    repeat' ((conv => whnf); first | (refine ⟨fun h => ?_, fun h => ?_⟩ <;> try (exfalso; first | omega | exact absurd h (by decide) | exact h rfl | exact absurd (show true = false from h) (by decide) | exact absurd (show false = true from h) (by decide))) | (refine ⟨_, contF_h, ⟨l, 62, n, teamB n⟩, ⟨hx, isteam_c, isteam_p n⟩, leVs_of_eq rfl, .inr rfl, rfl, ?_⟩; show norm (B (l.any (teamB n))) _; rw [hd]) | fail | fail)
    all_goals (refine ⟨[], rfl, trivial, congrArg CV.bool ?_⟩; exact (hd).symm)
theorem engaged_h : Holds Try.prog 31 engagedS := holds_of mix Try.func31 engagedLow (fun _ => rfl) engagedV

end Go.Proofs.Ytoeichkblclfaaa
