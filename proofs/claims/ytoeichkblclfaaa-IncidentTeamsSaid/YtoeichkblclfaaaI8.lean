/- Incidents: equality, the calls of the laws. -/
import Derived.Test.YtoeichkblclfaaaI6
namespace Go.Proofs.Ytoeichkblclfaaa
open Go.RowKit
theorem inc_ext {x y : Inc} (h : x.id = y.id ∧ x.run = y.run ∧ x.tri = y.tri ∧ x.st = y.st ∧ x.team = y.team ∧ x.since = y.since ∧ True) : x = y := by
  obtain ⟨a0, a1, a2, a3, a4, a5, _⟩ := h
  cases x; cases y; simp_all
theorem inc_nn {x y : Inc} (h : ¬ ¬ (x.id = y.id ∧ x.run = y.run ∧ x.tri = y.tri ∧ x.st = y.st ∧ x.team = y.team ∧ x.since = y.since ∧ True)) : x = y := inc_ext (Decidable.not_not.1 h)
theorem inc_ne {x y : Inc} (h : ¬ (x.id = y.id ∧ x.run = y.run ∧ x.tri = y.tri ∧ x.st = y.st ∧ x.team = y.team ∧ x.since = y.since ∧ True)) : x ≠ y := fun e => h (by subst e; exact ⟨rfl, rfl, rfl, rfl, rfl, rfl, trivial⟩)

/-! skiarea/skiarearef57.Same -/
def rsameIr : IFn := ⟨26, [.tmp 4],
  (.seq (.ops [
    ⟨(some 4), .mov, [.const (.bool false)], none⟩] false)
  (.seq (.seq (.ops [
    ⟨(some 6), .mov, [.tmp 0], none⟩,
    ⟨(some 7), .len, [.tmp 6], none⟩,
    ⟨(some 8), .mov, [.tmp 1], none⟩,
    ⟨(some 9), .len, [.tmp 8], none⟩,
    ⟨(some 10), .cmp .neq, [.tmp 7, .tmp 9], none⟩] false)
  (.cond (.tmp 10)
    (.seq (.ops [
      ⟨(some 4), .mov, [.const (.bool false)], none⟩] false)
    .ret)
    .skip))
  (.seq (.seq (.ops [
    ⟨(some 5), .mov, [.const (.int .i64 0)], none⟩] false)
  (.block 0
    (.loop
      (.seq (.seq (.ops [
        ⟨(some 11), .mov, [.tmp 5], none⟩,
        ⟨(some 12), .mov, [.tmp 0], none⟩,
        ⟨(some 13), .len, [.tmp 12], none⟩,
        ⟨(some 14), .cmp .lss, [.tmp 11, .tmp 13], none⟩] false)
      (.cond (.tmp 14)
        .skip
        (.exit 0)))
      (.seq (.block 1
        (.seq (.ops [
          ⟨(some 17), .mov, [.tmp 0], none⟩,
          ⟨(some 18), .mov, [.tmp 5], none⟩,
          ⟨(some 19), .idx 6, [.tmp 17, .tmp 18], none⟩,
          ⟨(some 20), .load 6 true, [.tmp 19], none⟩,
          ⟨(some 21), .mov, [.tmp 1], none⟩,
          ⟨(some 22), .mov, [.tmp 5], none⟩,
          ⟨(some 23), .idx 6, [.tmp 21, .tmp 22], none⟩,
          ⟨(some 24), .load 6 true, [.tmp 23], none⟩,
          ⟨(some 25), .eqa [false, false, false, false, false, false] true, [.tmp 20, .tmp 24], none⟩] true)
        (.cond (.tmp 25)
          (.seq (.ops [
            ⟨(some 4), .mov, [.const (.bool false)], none⟩] false)
          .ret)
          .skip)))
      (.ops [
        ⟨(some 15), .mov, [.tmp 5], none⟩,
        ⟨(some 16), .bin .add .i64 false, [.tmp 15, .const (.int .i64 1)], none⟩,
        ⟨(some 5), .mov, [.tmp 16], none⟩] false))))))
  (.seq (.ops [
    ⟨(some 4), .mov, [.const (.bool true)], none⟩] false)
  .ret))))⟩
theorem rsameLow : lowF Try.prog {} Try.f15 = some rsameIr := by kernel_rfl
def rsameS : Spec := spec (List Inc × List Inc) (fun p => [L 6 (p.1.map encI), L 6 (p.2.map encI)]) (fun p => p.1.length ≤ 9223372036854775807) (fun p => B (decide (p.1 = p.2)))
theorem rsameV : fnV Try.prog rsameIr rsameS := by
  intro ⟨(xs : List Inc), (ys : List Inc)⟩ hx
  replace hx : xs.length ≤ 9223372036854775807 := hx
  have hl : (xs.map encI).length = xs.length := List.length_map ..
  have hl2 : (ys.map encI).length = ys.length := List.length_map ..
  conv => whnf
  refine ⟨fun h => ?_, fun h => ?_⟩
  · conv => whnf
    refine ⟨[], rfl, trivial, congrArg CV.bool ?_⟩
    exact (decide_eq_false fun (e : xs = ys) => h (by subst e; rfl)).symm
  have he : xs.length = ys.length := by have h : ((xs.map encI).length : Int) = (ys.map encI).length := Decidable.not_not.1 h; omega
  conv => whnf
  refine ⟨Nat, fun xq => ⟨[(0, L 6 (xs.map encI)), (1, L 6 (ys.map encI)), (5, I xq)], [], 0⟩, fun xq => xq ≤ xs.length ∧ xs.take xq = ys.take xq, fun xq => xs.length - xq, ⟨0, ?_, [], ⟨⟨rfl, rfl⟩, ⟨⟨rfl, rfl⟩, ⟨⟨rfl, rfl⟩, trivial⟩⟩⟩, trivial, rfl, rfl, rfl⟩, ?_⟩
  · (try dsimp only); exact ⟨Nat.zero_le _, by simp⟩
  rintro k hk
  obtain ⟨hk, hr⟩ : k ≤ xs.length ∧ xs.take k = ys.take k := hk
  (try dsimp only)
  conv => whnf
  refine ⟨fun h => ?_, fun h => ?_⟩
  · replace h : (k : Int) < ((xs.map encI).length : Int) := h
    conv => whnf
    refine ⟨by omega, fun r hr' => ?_⟩
    obtain ⟨x, hx', rfl⟩ := map_get hr'
    rw [Int.toNat_natCast] at hx'
    conv => whnf
    refine ⟨by omega, fun r hr' => ?_⟩
    obtain ⟨y, hy', rfl⟩ := map_get hr'
    rw [Int.toNat_natCast] at hy'
    conv => whnf
    refine ⟨fun hc => ?_, fun hc => ?_⟩
    · conv => whnf
      refine ⟨[], rfl, trivial, congrArg CV.bool ?_⟩
      exact (decide_eq_false (ne_at hx' hy' (fun e => hc (by subst e; exact ⟨rfl, rfl, rfl, rfl, rfl, rfl, trivial⟩)))).symm
    · conv => whnf
      refine ⟨⟨by omega, by omega⟩, ?_⟩
      conv => whnf
      (refine ⟨k + 1, ⟨?_, by (try dsimp only); omega⟩, [], ⟨⟨rfl, rfl⟩, ⟨⟨rfl, rfl⟩, ⟨⟨rfl, rfl⟩, trivial⟩⟩⟩, trivial, rfl, rfl, rfl⟩; (try dsimp only); exact ⟨by omega, take_step hr hx' hy' (inc_nn hc)⟩)
  · conv => whnf
    refine ⟨[], rfl, trivial, congrArg CV.bool ?_⟩
    exact (decide_eq_true (take_all hr (by omega) (by omega))).symm
theorem rsame_h : Holds Try.prog 15 rsameS := holds_of mix Try.func15 rsameLow (fun _ => rfl) rsameV
theorem int_nn {x y : Int} (h : ¬ ¬ x = y) : x = y := Decidable.not_not.1 h

/-! skiarea/skiarealaw57.same -/
def lsameIr : IFn := ⟨26, [.tmp 4],
  (.seq (.ops [
    ⟨(some 4), .mov, [.const (.bool false)], none⟩] false)
  (.seq (.seq (.ops [
    ⟨(some 6), .mov, [.tmp 0], none⟩,
    ⟨(some 7), .len, [.tmp 6], none⟩,
    ⟨(some 8), .mov, [.tmp 1], none⟩,
    ⟨(some 9), .len, [.tmp 8], none⟩,
    ⟨(some 10), .cmp .neq, [.tmp 7, .tmp 9], none⟩] false)
  (.cond (.tmp 10)
    (.seq (.ops [
      ⟨(some 4), .mov, [.const (.bool false)], none⟩] false)
    .ret)
    .skip))
  (.seq (.seq (.ops [
    ⟨(some 5), .mov, [.const (.int .i64 0)], none⟩] false)
  (.block 0
    (.loop
      (.seq (.seq (.ops [
        ⟨(some 11), .mov, [.tmp 5], none⟩,
        ⟨(some 12), .mov, [.tmp 0], none⟩,
        ⟨(some 13), .len, [.tmp 12], none⟩,
        ⟨(some 14), .cmp .lss, [.tmp 11, .tmp 13], none⟩] false)
      (.cond (.tmp 14)
        .skip
        (.exit 0)))
      (.seq (.block 1
        (.seq (.ops [
          ⟨(some 17), .mov, [.tmp 0], none⟩,
          ⟨(some 18), .mov, [.tmp 5], none⟩,
          ⟨(some 19), .idx 1, [.tmp 17, .tmp 18], none⟩,
          ⟨(some 20), .load 1 false, [.tmp 19], none⟩,
          ⟨(some 21), .mov, [.tmp 1], none⟩,
          ⟨(some 22), .mov, [.tmp 5], none⟩,
          ⟨(some 23), .idx 1, [.tmp 21, .tmp 22], none⟩,
          ⟨(some 24), .load 1 false, [.tmp 23], none⟩,
          ⟨(some 25), .cmp .neq, [.tmp 20, .tmp 24], none⟩] true)
        (.cond (.tmp 25)
          (.seq (.ops [
            ⟨(some 4), .mov, [.const (.bool false)], none⟩] false)
          .ret)
          .skip)))
      (.ops [
        ⟨(some 15), .mov, [.tmp 5], none⟩,
        ⟨(some 16), .bin .add .i64 false, [.tmp 15, .const (.int .i64 1)], none⟩,
        ⟨(some 5), .mov, [.tmp 16], none⟩] false))))))
  (.seq (.ops [
    ⟨(some 4), .mov, [.const (.bool true)], none⟩] false)
  .ret))))⟩
theorem lsameLow : lowF Try.prog {} Try.f17 = some lsameIr := by kernel_rfl
def lsameS : Spec := spec (List Int × List Int) (fun p => [L 1 (p.1.map e1), L 1 (p.2.map e1)]) (fun p => p.1.length ≤ 9223372036854775807) (fun p => B (decide (p.1 = p.2)))
theorem lsameV : fnV Try.prog lsameIr lsameS := by
  intro ⟨(xs : List Int), (ys : List Int)⟩ hx
  replace hx : xs.length ≤ 9223372036854775807 := hx
  have hl : (xs.map e1).length = xs.length := List.length_map ..
  have hl2 : (ys.map e1).length = ys.length := List.length_map ..
  conv => whnf
  refine ⟨fun h => ?_, fun h => ?_⟩
  · conv => whnf
    refine ⟨[], rfl, trivial, congrArg CV.bool ?_⟩
    exact (decide_eq_false fun (e : xs = ys) => h (by subst e; rfl)).symm
  have he : xs.length = ys.length := by have h : ((xs.map e1).length : Int) = (ys.map e1).length := Decidable.not_not.1 h; omega
  conv => whnf
  refine ⟨Nat, fun xq => ⟨[(0, L 1 (xs.map e1)), (1, L 1 (ys.map e1)), (5, I xq)], [], 0⟩, fun xq => xq ≤ xs.length ∧ xs.take xq = ys.take xq, fun xq => xs.length - xq, ⟨0, ?_, [], ⟨⟨rfl, rfl⟩, ⟨⟨rfl, rfl⟩, ⟨⟨rfl, rfl⟩, trivial⟩⟩⟩, trivial, rfl, rfl, rfl⟩, ?_⟩
  · (try dsimp only); exact ⟨Nat.zero_le _, by simp⟩
  rintro k hk
  obtain ⟨hk, hr⟩ : k ≤ xs.length ∧ xs.take k = ys.take k := hk
  (try dsimp only)
  conv => whnf
  refine ⟨fun h => ?_, fun h => ?_⟩
  · replace h : (k : Int) < ((xs.map e1).length : Int) := h
    conv => whnf
    refine ⟨by omega, fun r hr' => ?_⟩
    obtain ⟨x, hx', rfl⟩ := map_get hr'
    rw [Int.toNat_natCast] at hx'
    conv => whnf
    refine ⟨by omega, fun r hr' => ?_⟩
    obtain ⟨y, hy', rfl⟩ := map_get hr'
    rw [Int.toNat_natCast] at hy'
    conv => whnf
    refine ⟨fun hc => ?_, fun hc => ?_⟩
    · conv => whnf
      refine ⟨[], rfl, trivial, congrArg CV.bool ?_⟩
      exact (decide_eq_false (ne_at hx' hy' (fun e => hc (by subst e; rfl)))).symm
    · conv => whnf
      refine ⟨⟨by omega, by omega⟩, ?_⟩
      conv => whnf
      (refine ⟨k + 1, ⟨?_, by (try dsimp only); omega⟩, [], ⟨⟨rfl, rfl⟩, ⟨⟨rfl, rfl⟩, ⟨⟨rfl, rfl⟩, trivial⟩⟩⟩, trivial, rfl, rfl, rfl⟩; (try dsimp only); exact ⟨by omega, take_step hr hx' hy' (int_nn hc)⟩)
  · conv => whnf
    refine ⟨[], rfl, trivial, congrArg CV.bool ?_⟩
    exact (decide_eq_true (take_all hr (by omega) (by omega))).symm
theorem lsame_h : Holds Try.prog 17 lsameS := holds_of mix Try.func17 lsameLow (fun _ => rfl) lsameV

/-! skiarea/skiarealaw57.right -/
def lrightIr : IFn := ⟨6, [.tmp 2],
  (.seq (.ops [
    ⟨(some 2), .mov, [.const (.bool false)], none⟩] false)
  (.seq (.ops [
    ⟨(some 3), .mov, [.tmp 0], none⟩,
    ⟨(some 4), .call 11, [.tmp 3], none⟩,
    ⟨(some 5), .cmp .eql, [.tmp 4, .const (.int .i64 0)], none⟩,
    ⟨(some 2), .mov, [.tmp 5], none⟩] false)
  .ret))⟩
theorem lrightLow : lowF Try.prog {} Try.f12 = some lrightIr := by kernel_rfl
def lrightS : Spec := spec (List Inc) (fun l => [L 6 (l.map encI)]) (fun l => l.length ≤ 9223372036854775807) (fun l => B (decide (rightI l = 0)))
theorem lrightV : fnV Try.prog lrightIr lrightS := by
  intro (l : List Inc) hx
  show vc _ _ _ _ ⟨argEnv 0 [L 6 (l.map encI)], [], 0⟩
  by_cases h0 : rightI l = 0
  · repeat' ((conv => whnf); first | (refine ⟨fun h => ?_, fun h => ?_⟩ <;> try (exfalso; first | omega | exact absurd h (by decide) | exact h rfl | exact absurd (show true = false from h) (by decide) | exact absurd (show false = true from h) (by decide))) | (refine ⟨_, rright_h, l, hx, leVs_of_eq rfl, .inl rfl, rfl, ?_⟩; show norm (I (rightI l)) _; rw [h0]) | fail | fail)
    all_goals (refine ⟨[], rfl, trivial, congrArg CV.bool ?_⟩; exact (decide_eq_true h0).symm)
  · repeat' ((conv => whnf); first | (refine ⟨fun h => ?_, fun h => ?_⟩ <;> try (exfalso; first | omega | exact absurd h (by decide) | exact h rfl | exact absurd (show true = false from h) (by decide) | exact absurd (show false = true from h) (by decide))) | (refine ⟨_, rright_h, l, hx, leVs_of_eq rfl, .inl rfl, rfl, ?_⟩; show norm (I (rightI l)) _) | fail | fail)
    all_goals (refine ⟨[], rfl, trivial, congrArg CV.bool ?_⟩; exact (decide_eq_false h0).symm)
theorem lright_h : Holds Try.prog 12 lrightS := holds_of mix Try.func12 lrightLow (fun _ => rfl) lrightV
abbrev encOp (r : Opr) : List CV := [.int .i64 r.kind, .int .i64 r.id, .int .i64 r.n, .int .i64 r.t]
abbrev aOp (r : Opr) : SV := .agg ((encOp r).map .c)
/-- A call that failed hands back nil. -/
theorem act_nil {l : List Inc} {o : Opr} (h : (actF l o).2 ≠ 0) : (actF l o).1 = [] := by
  have hc : ∀ g, (changeF g l o.id o.t).2 ≠ 0 → (changeF g l o.id o.t).1 = [] := by
    intro g h
    unfold changeF at *
    split at h
    · rename_i h1; rw [if_pos h1]
    · rename_i h1
      rw [if_neg h1]
      unfold chg at *
      split at h
      · rename_i h2; rw [if_pos h2]
      · rename_i h2
        split at h
        · rename_i h3; rw [if_neg h2, if_pos h3]
        · exact absurd rfl h
  unfold actF at *
  split at h
  · rename_i h1
    rw [if_pos h1]
    unfold reportF at *
    split at h
    · rename_i h2; rw [if_pos h2]
    · exact absurd rfl h
  · rename_i h1
    rw [if_neg h1]
    split at h
    · rename_i h2; rw [if_pos h2]; exact hc _ h
    · rename_i h2
      rw [if_neg h2]
      split at h
      · rename_i h3; rw [if_pos h3]; exact hc _ h
      · rename_i h3; rw [if_neg h3]; exact hc _ h

/-! skiarea/skiarealaw57.act -/
def actIr : IFn := ⟨53, [.tmp 4, .tmp 5],
  (.seq (.ops [
    ⟨(some 3), .box, [.tmp 1], none⟩,
    ⟨(some 4), .mov, [.const (.slice none 0 0)], none⟩,
    ⟨(some 5), .mov, [.const (.int .i64 0)], none⟩] false)
  (.seq (.seq (.ops [
    ⟨(some 6), .faddr 0, [.tmp 3], none⟩,
    ⟨(some 7), .load 1 false, [.tmp 6], none⟩,
    ⟨(some 8), .cmp .eql, [.tmp 7, .const (.int .i64 0)], none⟩] false)
  (.cond (.tmp 8)
    (.seq (.ops [
      ⟨(some 9), .mov, [.tmp 0], none⟩,
      ⟨(some 10), .faddr 1, [.tmp 3], none⟩,
      ⟨(some 11), .load 1 false, [.tmp 10], none⟩,
      ⟨(some 12), .faddr 2, [.tmp 3], none⟩,
      ⟨(some 13), .load 1 false, [.tmp 12], none⟩,
      ⟨(some 14), .faddr 3, [.tmp 3], none⟩,
      ⟨(some 15), .load 1 false, [.tmp 14], none⟩,
      ⟨(some 16), .call 24, [.tmp 9, .tmp 11, .tmp 13, .tmp 15], none⟩,
      ⟨(some 17), .extract 0, [.tmp 16], none⟩,
      ⟨(some 18), .extract 1, [.tmp 16], none⟩,
      ⟨(some 4), .mov, [.tmp 17], none⟩,
      ⟨(some 5), .mov, [.tmp 18], none⟩] false)
    .ret)
    .skip))
  (.seq (.seq (.ops [
    ⟨(some 19), .faddr 0, [.tmp 3], none⟩,
    ⟨(some 20), .load 1 false, [.tmp 19], none⟩,
    ⟨(some 21), .cmp .eql, [.tmp 20, .const (.int .i64 1)], none⟩] false)
  (.cond (.tmp 21)
    (.seq (.ops [
      ⟨(some 22), .mov, [.tmp 0], none⟩,
      ⟨(some 23), .faddr 1, [.tmp 3], none⟩,
      ⟨(some 24), .load 1 false, [.tmp 23], none⟩,
      ⟨(some 25), .faddr 2, [.tmp 3], none⟩,
      ⟨(some 26), .load 1 false, [.tmp 25], none⟩,
      ⟨(some 27), .faddr 3, [.tmp 3], none⟩,
      ⟨(some 28), .load 1 false, [.tmp 27], none⟩,
      ⟨(some 29), .call 25, [.tmp 22, .tmp 24, .tmp 26, .tmp 28], none⟩,
      ⟨(some 30), .extract 0, [.tmp 29], none⟩,
      ⟨(some 31), .extract 1, [.tmp 29], none⟩,
      ⟨(some 4), .mov, [.tmp 30], none⟩,
      ⟨(some 5), .mov, [.tmp 31], none⟩] false)
    .ret)
    .skip))
  (.seq (.seq (.ops [
    ⟨(some 32), .faddr 0, [.tmp 3], none⟩,
    ⟨(some 33), .load 1 false, [.tmp 32], none⟩,
    ⟨(some 34), .cmp .eql, [.tmp 33, .const (.int .i64 2)], none⟩] false)
  (.cond (.tmp 34)
    (.seq (.ops [
      ⟨(some 35), .mov, [.tmp 0], none⟩,
      ⟨(some 36), .faddr 1, [.tmp 3], none⟩,
      ⟨(some 37), .load 1 false, [.tmp 36], none⟩,
      ⟨(some 38), .faddr 2, [.tmp 3], none⟩,
      ⟨(some 39), .load 1 false, [.tmp 38], none⟩,
      ⟨(some 40), .faddr 3, [.tmp 3], none⟩,
      ⟨(some 41), .load 1 false, [.tmp 40], none⟩,
      ⟨(some 42), .call 26, [.tmp 35, .tmp 37, .tmp 39, .tmp 41], none⟩,
      ⟨(some 43), .extract 0, [.tmp 42], none⟩,
      ⟨(some 44), .extract 1, [.tmp 42], none⟩,
      ⟨(some 4), .mov, [.tmp 43], none⟩,
      ⟨(some 5), .mov, [.tmp 44], none⟩] false)
    .ret)
    .skip))
  (.seq (.ops [
    ⟨(some 45), .mov, [.tmp 0], none⟩,
    ⟨(some 46), .faddr 1, [.tmp 3], none⟩,
    ⟨(some 47), .load 1 false, [.tmp 46], none⟩,
    ⟨(some 48), .faddr 3, [.tmp 3], none⟩,
    ⟨(some 49), .load 1 false, [.tmp 48], none⟩,
    ⟨(some 50), .call 27, [.tmp 45, .tmp 47, .tmp 49], none⟩,
    ⟨(some 51), .extract 0, [.tmp 50], none⟩,
    ⟨(some 52), .extract 1, [.tmp 50], none⟩,
    ⟨(some 4), .mov, [.tmp 51], none⟩,
    ⟨(some 5), .mov, [.tmp 52], none⟩] false)
  .ret)))))⟩
theorem actLow : lowF Try.prog {} Try.f13 = some actIr := by kernel_rfl
def actS : Spec := spec (List Inc × Opr) (fun p => [L 6 (p.1.map encI), aOp p.2]) (fun p => p.1.length ≤ 64) (fun p => resT (actF p.1 p.2))
theorem actV : fnV Try.prog actIr actS := by
  intro ⟨(l : List Inc), (o : Opr)⟩ hx
  replace hx : l.length ≤ 64 := hx
  show vc _ _ _ _ ⟨argEnv 0 [L 6 (l.map encI), aOp o], [], 0⟩
  by_cases h0 : o.kind = 0
  · have hA : actF l o = reportF l o.id o.n o.t := if_pos h0
    rcases hr : reportF l o.id o.n o.t with ⟨y, e⟩
    rw [hr] at hA
    repeat' ((conv => whnf); first | (refine ⟨fun h => ?_, fun h => ?_⟩ <;> try (exfalso; first | omega | exact absurd h (by decide) | exact h rfl | exact absurd (show true = false from h) (by decide) | exact absurd (show false = true from h) (by decide))) | (refine ⟨_, report_h, (l, o.id, o.n, o.t), hx, leVs_of_eq rfl, .inl rfl, rfl, ?_⟩; show norm (resT (reportF l o.id o.n o.t)) _; rw [hr]) | fail | fail)
    all_goals (refine ⟨[], rfl, trivial, ?_⟩; show leR _ (resT (actF l o)); rw [hA]; exact ⟨leV_refl _, rfl, trivial⟩)
  by_cases h1 : o.kind = 1
  · have hA : actF l o = changeF (judgeF o.n) l o.id o.t := (if_neg h0).trans (if_pos h1)
    rcases hr : changeF (judgeF o.n) l o.id o.t with ⟨y, e⟩
    rw [hr] at hA
    repeat' ((conv => whnf); first | (refine ⟨fun h => ?_, fun h => ?_⟩ <;> try (exfalso; first | omega | exact absurd h (by decide) | exact h rfl | exact absurd (show true = false from h) (by decide) | exact absurd (show false = true from h) (by decide))) | (refine ⟨_, judge_h, (l, o.id, o.n, o.t), hx, leVs_of_eq rfl, .inl rfl, rfl, ?_⟩; show norm (resT (changeF (judgeF o.n) l o.id o.t)) _; rw [hr]) | fail | fail)
    all_goals (refine ⟨[], rfl, trivial, ?_⟩; show leR _ (resT (actF l o)); rw [hA]; exact ⟨leV_refl _, rfl, trivial⟩)
  by_cases h2 : o.kind = 2
  · have hA : actF l o = changeF (sendF l o.n) l o.id o.t := (if_neg h0).trans ((if_neg h1).trans (if_pos h2))
    rcases hr : changeF (sendF l o.n) l o.id o.t with ⟨y, e⟩
    rw [hr] at hA
    repeat' ((conv => whnf); first | (refine ⟨fun h => ?_, fun h => ?_⟩ <;> try (exfalso; first | omega | exact absurd h (by decide) | exact h rfl | exact absurd (show true = false from h) (by decide) | exact absurd (show false = true from h) (by decide))) | (refine ⟨_, go_h, (l, o.id, o.n, o.t), hx, leVs_of_eq rfl, .inl rfl, rfl, ?_⟩; show norm (resT (changeF (sendF l o.n) l o.id o.t)) _; rw [hr]) | fail | fail)
    all_goals (refine ⟨[], rfl, trivial, ?_⟩; show leR _ (resT (actF l o)); rw [hA]; exact ⟨leV_refl _, rfl, trivial⟩)
  · have hA : actF l o = changeF moveF l o.id o.t := (if_neg h0).trans ((if_neg h1).trans (if_neg h2))
    rcases hr : changeF moveF l o.id o.t with ⟨y, e⟩
    rw [hr] at hA
    repeat' ((conv => whnf); first | (refine ⟨fun h => ?_, fun h => ?_⟩ <;> try (exfalso; first | omega | exact absurd h (by decide) | exact h rfl | exact absurd (show true = false from h) (by decide) | exact absurd (show false = true from h) (by decide))) | (refine ⟨_, move_h, (l, o.id, o.t), hx, leVs_of_eq rfl, .inl rfl, rfl, ?_⟩; show norm (resT (changeF moveF l o.id o.t)) _; rw [hr]) | fail | fail)
    all_goals (refine ⟨[], rfl, trivial, ?_⟩; show leR _ (resT (actF l o)); rw [hA]; exact ⟨leV_refl _, rfl, trivial⟩)
theorem act_h : Holds Try.prog 13 actS := holds_of mix Try.func13 actLow (fun _ => rfl) actV

/-! skiarea/skiarealaw57.specified -/
def specdIr : IFn := ⟨53, [.tmp 4, .tmp 5],
  (.seq (.ops [
    ⟨(some 3), .box, [.tmp 1], none⟩,
    ⟨(some 4), .mov, [.const (.slice none 0 0)], none⟩,
    ⟨(some 5), .mov, [.const (.int .i64 0)], none⟩] false)
  (.seq (.seq (.ops [
    ⟨(some 6), .faddr 0, [.tmp 3], none⟩,
    ⟨(some 7), .load 1 false, [.tmp 6], none⟩,
    ⟨(some 8), .cmp .eql, [.tmp 7, .const (.int .i64 0)], none⟩] false)
  (.cond (.tmp 8)
    (.seq (.ops [
      ⟨(some 9), .mov, [.tmp 0], none⟩,
      ⟨(some 10), .faddr 1, [.tmp 3], none⟩,
      ⟨(some 11), .load 1 false, [.tmp 10], none⟩,
      ⟨(some 12), .faddr 2, [.tmp 3], none⟩,
      ⟨(some 13), .load 1 false, [.tmp 12], none⟩,
      ⟨(some 14), .faddr 3, [.tmp 3], none⟩,
      ⟨(some 15), .load 1 false, [.tmp 14], none⟩,
      ⟨(some 16), .call 34, [.tmp 9, .tmp 11, .tmp 13, .tmp 15], none⟩,
      ⟨(some 17), .extract 0, [.tmp 16], none⟩,
      ⟨(some 18), .extract 1, [.tmp 16], none⟩,
      ⟨(some 4), .mov, [.tmp 17], none⟩,
      ⟨(some 5), .mov, [.tmp 18], none⟩] false)
    .ret)
    .skip))
  (.seq (.seq (.ops [
    ⟨(some 19), .faddr 0, [.tmp 3], none⟩,
    ⟨(some 20), .load 1 false, [.tmp 19], none⟩,
    ⟨(some 21), .cmp .eql, [.tmp 20, .const (.int .i64 1)], none⟩] false)
  (.cond (.tmp 21)
    (.seq (.ops [
      ⟨(some 22), .mov, [.tmp 0], none⟩,
      ⟨(some 23), .faddr 1, [.tmp 3], none⟩,
      ⟨(some 24), .load 1 false, [.tmp 23], none⟩,
      ⟨(some 25), .faddr 2, [.tmp 3], none⟩,
      ⟨(some 26), .load 1 false, [.tmp 25], none⟩,
      ⟨(some 27), .faddr 3, [.tmp 3], none⟩,
      ⟨(some 28), .load 1 false, [.tmp 27], none⟩,
      ⟨(some 29), .call 35, [.tmp 22, .tmp 24, .tmp 26, .tmp 28], none⟩,
      ⟨(some 30), .extract 0, [.tmp 29], none⟩,
      ⟨(some 31), .extract 1, [.tmp 29], none⟩,
      ⟨(some 4), .mov, [.tmp 30], none⟩,
      ⟨(some 5), .mov, [.tmp 31], none⟩] false)
    .ret)
    .skip))
  (.seq (.seq (.ops [
    ⟨(some 32), .faddr 0, [.tmp 3], none⟩,
    ⟨(some 33), .load 1 false, [.tmp 32], none⟩,
    ⟨(some 34), .cmp .eql, [.tmp 33, .const (.int .i64 2)], none⟩] false)
  (.cond (.tmp 34)
    (.seq (.ops [
      ⟨(some 35), .mov, [.tmp 0], none⟩,
      ⟨(some 36), .faddr 1, [.tmp 3], none⟩,
      ⟨(some 37), .load 1 false, [.tmp 36], none⟩,
      ⟨(some 38), .faddr 2, [.tmp 3], none⟩,
      ⟨(some 39), .load 1 false, [.tmp 38], none⟩,
      ⟨(some 40), .faddr 3, [.tmp 3], none⟩,
      ⟨(some 41), .load 1 false, [.tmp 40], none⟩,
      ⟨(some 42), .call 36, [.tmp 35, .tmp 37, .tmp 39, .tmp 41], none⟩,
      ⟨(some 43), .extract 0, [.tmp 42], none⟩,
      ⟨(some 44), .extract 1, [.tmp 42], none⟩,
      ⟨(some 4), .mov, [.tmp 43], none⟩,
      ⟨(some 5), .mov, [.tmp 44], none⟩] false)
    .ret)
    .skip))
  (.seq (.ops [
    ⟨(some 45), .mov, [.tmp 0], none⟩,
    ⟨(some 46), .faddr 1, [.tmp 3], none⟩,
    ⟨(some 47), .load 1 false, [.tmp 46], none⟩,
    ⟨(some 48), .faddr 3, [.tmp 3], none⟩,
    ⟨(some 49), .load 1 false, [.tmp 48], none⟩,
    ⟨(some 50), .call 37, [.tmp 45, .tmp 47, .tmp 49], none⟩,
    ⟨(some 51), .extract 0, [.tmp 50], none⟩,
    ⟨(some 52), .extract 1, [.tmp 50], none⟩,
    ⟨(some 4), .mov, [.tmp 51], none⟩,
    ⟨(some 5), .mov, [.tmp 52], none⟩] false)
  .ret)))))⟩
theorem specdLow : lowF Try.prog {} Try.f14 = some specdIr := by kernel_rfl
def specdS : Spec := spec (List Inc × Opr) (fun p => [L 6 (p.1.map encI), aOp p.2]) (fun p => rightI p.1 = 0) (fun p => resT (actF p.1 p.2))
theorem specdV : fnV Try.prog specdIr specdS := by
  intro ⟨(l : List Inc), (o : Opr)⟩ hx
  replace hx : rightI l = 0 := hx
  show vc _ _ _ _ ⟨argEnv 0 [L 6 (l.map encI), aOp o], [], 0⟩
  by_cases h0 : o.kind = 0
  · have hA : actF l o = reportF l o.id o.n o.t := if_pos h0
    rcases hr : reportF l o.id o.n o.t with ⟨y, e⟩
    rw [hr] at hA
    repeat' ((conv => whnf); first | (refine ⟨fun h => ?_, fun h => ?_⟩ <;> try (exfalso; first | omega | exact absurd h (by decide) | exact h rfl | exact absurd (show true = false from h) (by decide) | exact absurd (show false = true from h) (by decide))) | (refine ⟨_, rreport_h, (l, o.id, o.n, o.t), (by first | exact hx | exact len_of hx), leVs_of_eq rfl, .inl rfl, rfl, ?_⟩; show norm (resT (reportF l o.id o.n o.t)) _; rw [hr]) | fail | fail)
    all_goals (refine ⟨[], rfl, trivial, ?_⟩; show leR _ (resT (actF l o)); rw [hA]; exact ⟨leV_refl _, rfl, trivial⟩)
  by_cases h1 : o.kind = 1
  · have hA : actF l o = changeF (judgeF o.n) l o.id o.t := (if_neg h0).trans (if_pos h1)
    rcases hr : changeF (judgeF o.n) l o.id o.t with ⟨y, e⟩
    rw [hr] at hA
    repeat' ((conv => whnf); first | (refine ⟨fun h => ?_, fun h => ?_⟩ <;> try (exfalso; first | omega | exact absurd h (by decide) | exact h rfl | exact absurd (show true = false from h) (by decide) | exact absurd (show false = true from h) (by decide))) | (refine ⟨_, rjudge_h, (l, o.id, o.n, o.t), (by first | exact hx | exact len_of hx), leVs_of_eq rfl, .inl rfl, rfl, ?_⟩; show norm (resT (changeF (judgeF o.n) l o.id o.t)) _; rw [hr]) | fail | fail)
    all_goals (refine ⟨[], rfl, trivial, ?_⟩; show leR _ (resT (actF l o)); rw [hA]; exact ⟨leV_refl _, rfl, trivial⟩)
  by_cases h2 : o.kind = 2
  · have hA : actF l o = changeF (sendF l o.n) l o.id o.t := (if_neg h0).trans ((if_neg h1).trans (if_pos h2))
    rcases hr : changeF (sendF l o.n) l o.id o.t with ⟨y, e⟩
    rw [hr] at hA
    repeat' ((conv => whnf); first | (refine ⟨fun h => ?_, fun h => ?_⟩ <;> try (exfalso; first | omega | exact absurd h (by decide) | exact h rfl | exact absurd (show true = false from h) (by decide) | exact absurd (show false = true from h) (by decide))) | (refine ⟨_, rgo_h, (l, o.id, o.n, o.t), (by first | exact hx | exact len_of hx), leVs_of_eq rfl, .inl rfl, rfl, ?_⟩; show norm (resT (changeF (sendF l o.n) l o.id o.t)) _; rw [hr]) | fail | fail)
    all_goals (refine ⟨[], rfl, trivial, ?_⟩; show leR _ (resT (actF l o)); rw [hA]; exact ⟨leV_refl _, rfl, trivial⟩)
  · have hA : actF l o = changeF moveF l o.id o.t := (if_neg h0).trans ((if_neg h1).trans (if_neg h2))
    rcases hr : changeF moveF l o.id o.t with ⟨y, e⟩
    rw [hr] at hA
    repeat' ((conv => whnf); first | (refine ⟨fun h => ?_, fun h => ?_⟩ <;> try (exfalso; first | omega | exact absurd h (by decide) | exact h rfl | exact absurd (show true = false from h) (by decide) | exact absurd (show false = true from h) (by decide))) | (refine ⟨_, rmove_h, (l, o.id, o.t), (by first | exact hx | exact len_of hx), leVs_of_eq rfl, .inl rfl, rfl, ?_⟩; show norm (resT (changeF moveF l o.id o.t)) _; rw [hr]) | fail | fail)
    all_goals (refine ⟨[], rfl, trivial, ?_⟩; show leR _ (resT (actF l o)); rw [hA]; exact ⟨leV_refl _, rfl, trivial⟩)
theorem specd_h : Holds Try.prog 14 specdS := holds_of mix Try.func14 specdLow (fun _ => rfl) specdV

end Go.Proofs.Ytoeichkblclfaaa
