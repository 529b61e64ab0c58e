/- Rides: Add. -/
import Derived.Test.YtfghmpfiemmbgaaF6
namespace Go.Proofs.Ytfghmpfiemmbgaa
open Go.RowKit

theorem mergeF_err {a b : List Ride} {e : Int} (h : mergeF a b = .bad e) : e ≠ 0 := by
  unfold mergeF at h
  split at h
  · cases h; decide
  · split at h <;> cases h; decide
def addR (s : List Ride) (r : Ride) : SV :=
  match okRb r, mergeF s [r] with
  | false, _ => .tup [.c .nil, B false, I 2]
  | true, .bad e => .tup [.c .nil, B false, I e]
  | true, .ok m => .tup [L 7 (m.map encR), B (decide (s.length < m.length)), I 0]

/-! skiarea/rides.Add -/
def addIr : IFn := ⟨28, [.tmp 4, .tmp 5, .tmp 6],
  (.seq (.ops [
    ⟨(some 3), .box, [.tmp 1], none⟩,
    ⟨(some 4), .mov, [.const (.slice none 0 0)], none⟩,
    ⟨(some 5), .mov, [.const (.bool false)], none⟩,
    ⟨(some 6), .mov, [.const (.int .i64 0)], none⟩] false)
  (.seq (.seq (.ops [
    ⟨(some 9), .load 7 true, [.tmp 3], none⟩,
    ⟨(some 10), .call 28, [.tmp 9], none⟩,
    ⟨(some 11), .not, [.tmp 10], none⟩] false)
  (.cond (.tmp 11)
    (.seq (.ops [
      ⟨(some 4), .mov, [.const (.slice none 0 0)], none⟩,
      ⟨(some 5), .mov, [.const (.bool false)], none⟩,
      ⟨(some 6), .mov, [.const (.int .i64 2)], none⟩] false)
    .ret)
    .skip))
  (.seq (.ops [
    ⟨(some 13), .mov, [.tmp 0], none⟩,
    ⟨(some 14), .load 7 true, [.tmp 3], none⟩,
    ⟨(some 15), .buildSl 28 7, [.tmp 14], none⟩,
    ⟨(some 16), .call 18, [.tmp 13, .tmp 15], none⟩,
    ⟨(some 12), .mov, [.tmp 16], none⟩,
    ⟨(some 17), .extract 0, [.tmp 12], none⟩,
    ⟨(some 18), .extract 1, [.tmp 12], none⟩,
    ⟨(some 7), .mov, [.tmp 17], none⟩,
    ⟨(some 8), .mov, [.tmp 18], none⟩] false)
  (.seq (.seq (.ops [
    ⟨(some 19), .mov, [.tmp 8], none⟩,
    ⟨(some 20), .cmp .neq, [.tmp 19, .const (.int .i64 0)], none⟩] false)
  (.cond (.tmp 20)
    (.seq (.ops [
      ⟨(some 21), .mov, [.tmp 8], none⟩,
      ⟨(some 4), .mov, [.const (.slice none 0 0)], none⟩,
      ⟨(some 5), .mov, [.const (.bool false)], none⟩,
      ⟨(some 6), .mov, [.tmp 21], none⟩] false)
    .ret)
    .skip))
  (.seq (.ops [
    ⟨(some 22), .mov, [.tmp 7], none⟩,
    ⟨(some 23), .mov, [.tmp 7], none⟩,
    ⟨(some 24), .len, [.tmp 23], none⟩,
    ⟨(some 25), .mov, [.tmp 0], none⟩,
    ⟨(some 26), .len, [.tmp 25], none⟩,
    ⟨(some 27), .cmp .gtr, [.tmp 24, .tmp 26], none⟩,
    ⟨(some 4), .mov, [.tmp 22], none⟩,
    ⟨(some 5), .mov, [.tmp 27], none⟩,
    ⟨(some 6), .mov, [.const (.int .i64 0)], none⟩] false)
  .ret)))))⟩
theorem addLow : lowF Try.prog {} Try.f15 = some addIr := by kernel_rfl
def addS : Spec := spec (List Ride × Ride) (fun p => [L 7 (p.1.map encR), aR p.2]) (fun p => p.1.length ≤ 3000 ∧ Sorted p.1) (fun p => addR p.1 p.2)
theorem addV : fnV Try.prog addIr addS := by
  intro ⟨(s : List Ride), (r : Ride)⟩ hx
  obtain ⟨ls, ss⟩ : s.length ≤ 3000 ∧ Sorted s := hx
  have hls : (s.map encR).length = s.length := List.length_map ..
  show vc _ _ _ ⟨argEnv 0 [L 7 (s.map encR), aR r], [], 0⟩
  conv => whnf
  refine ⟨_, inRange_h, r, trivial, leVs_of_eq rfl, .inr rfl, rfl, ?_⟩
  conv => whnf
  refine ⟨fun ho => ?_, fun ho => ?_⟩
  · conv => whnf
    refine ⟨_, merge_h, (s, [r]), ⟨⟨ls, ss⟩, by show (1 : Nat) ≤ 3000; omega, List.pairwise_singleton _ _⟩, leVs_of_eq rfl, .inl rfl, rfl, ?_⟩
    show norm (mergeR (mergeF s [r])) _
    cases hg : mergeF s [r] with
    | bad e =>
      conv => whnf
      refine ⟨fun h => ?_, fun h => ?_⟩
      · conv => whnf
        refine ⟨[], rfl, trivial, ?_⟩
        show leR _ (addR s r)
        unfold addR
        rw [show okRb r = true from ho, hg]
        exact leVs_of_eq rfl
      · exact absurd (Decidable.not_not.1 h) (mergeF_err hg)
    | ok m =>
      have hlm : (m.map encR).length = m.length := List.length_map ..
      conv => whnf
      refine ⟨(fun h0 => absurd rfl h0), fun _ => ?_⟩
      conv => whnf
      refine ⟨fun h => ?_, fun h => ?_⟩ <;> (
        conv => whnf
        refine ⟨[], rfl, trivial, ?_⟩
        show leR _ (addR s r)
        unfold addR
        rw [show okRb r = true from ho, hg]
        show leR _ (.tup [L 7 (m.map encR), B (decide (s.length < m.length)), I 0])
        first | rw [decide_eq_true (show s.length < m.length by omega)] | rw [decide_eq_false (show ¬ s.length < m.length by omega)]
        exact leVs_of_eq rfl)
  · conv => whnf
    refine ⟨[], rfl, trivial, ?_⟩
    show leR _ (addR s r)
    unfold addR
    rw [show okRb r = false from ho]
    exact leVs_of_eq rfl
theorem add_h : Holds Try.prog 15 addS := holds_of mix Try.func15 addLow (fun _ => rfl) addV

/-! skiarea/skiarearef31.Add -/
def refAddIr : IFn := ⟨28, [.tmp 4, .tmp 5, .tmp 6],
  (.seq (.ops [
    ⟨(some 3), .box, [.tmp 1], none⟩,
    ⟨(some 4), .mov, [.const (.slice none 0 0)], none⟩,
    ⟨(some 5), .mov, [.const (.bool false)], none⟩,
    ⟨(some 6), .mov, [.const (.int .i64 0)], none⟩] false)
  (.seq (.seq (.ops [
    ⟨(some 9), .load 7 true, [.tmp 3], none⟩,
    ⟨(some 10), .call 30, [.tmp 9], none⟩,
    ⟨(some 11), .not, [.tmp 10], none⟩] false)
  (.cond (.tmp 11)
    (.seq (.ops [
      ⟨(some 4), .mov, [.const (.slice none 0 0)], none⟩,
      ⟨(some 5), .mov, [.const (.bool false)], none⟩,
      ⟨(some 6), .mov, [.const (.int .i64 2)], none⟩] false)
    .ret)
    .skip))
  (.seq (.ops [
    ⟨(some 13), .mov, [.tmp 0], none⟩,
    ⟨(some 14), .load 7 true, [.tmp 3], none⟩,
    ⟨(some 15), .buildSl 28 7, [.tmp 14], none⟩,
    ⟨(some 16), .call 19, [.tmp 13, .tmp 15], none⟩,
    ⟨(some 12), .mov, [.tmp 16], none⟩,
    ⟨(some 17), .extract 0, [.tmp 12], none⟩,
    ⟨(some 18), .extract 1, [.tmp 12], none⟩,
    ⟨(some 7), .mov, [.tmp 17], none⟩,
    ⟨(some 8), .mov, [.tmp 18], none⟩] false)
  (.seq (.seq (.ops [
    ⟨(some 19), .mov, [.tmp 8], none⟩,
    ⟨(some 20), .cmp .neq, [.tmp 19, .const (.int .i64 0)], none⟩] false)
  (.cond (.tmp 20)
    (.seq (.ops [
      ⟨(some 21), .mov, [.tmp 8], none⟩,
      ⟨(some 4), .mov, [.const (.slice none 0 0)], none⟩,
      ⟨(some 5), .mov, [.const (.bool false)], none⟩,
      ⟨(some 6), .mov, [.tmp 21], none⟩] false)
    .ret)
    .skip))
  (.seq (.ops [
    ⟨(some 22), .mov, [.tmp 7], none⟩,
    ⟨(some 23), .mov, [.tmp 7], none⟩,
    ⟨(some 24), .len, [.tmp 23], none⟩,
    ⟨(some 25), .mov, [.tmp 0], none⟩,
    ⟨(some 26), .len, [.tmp 25], none⟩,
    ⟨(some 27), .cmp .gtr, [.tmp 24, .tmp 26], none⟩,
    ⟨(some 4), .mov, [.tmp 22], none⟩,
    ⟨(some 5), .mov, [.tmp 27], none⟩,
    ⟨(some 6), .mov, [.const (.int .i64 0)], none⟩] false)
  .ret)))))⟩
theorem refAddLow : lowF Try.prog {} Try.f16 = some refAddIr := by kernel_rfl
def refAddS : Spec := spec (List Ride × Ride) (fun p => [L 7 (p.1.map encR), aR p.2]) (fun p => p.1.length ≤ 3000 ∧ Sorted p.1) (fun p => addR p.1 p.2)
theorem refAddV : fnV Try.prog refAddIr refAddS := by
  intro ⟨(s : List Ride), (r : Ride)⟩ hx
  obtain ⟨ls, ss⟩ : s.length ≤ 3000 ∧ Sorted s := hx
  have hls : (s.map encR).length = s.length := List.length_map ..
  show vc _ _ _ ⟨argEnv 0 [L 7 (s.map encR), aR r], [], 0⟩
  conv => whnf
  refine ⟨_, ranges_h, r, trivial, leVs_of_eq rfl, .inr rfl, rfl, ?_⟩
  conv => whnf
  refine ⟨fun ho => ?_, fun ho => ?_⟩
  · conv => whnf
    refine ⟨_, refMerge_h, (s, [r]), ⟨⟨ls, ss⟩, by show (1 : Nat) ≤ 3000; omega, List.pairwise_singleton _ _⟩, leVs_of_eq rfl, .inl rfl, rfl, ?_⟩
    show norm (mergeR (mergeF s [r])) _
    cases hg : mergeF s [r] with
    | bad e =>
      conv => whnf
      refine ⟨fun h => ?_, fun h => ?_⟩
      · conv => whnf
        refine ⟨[], rfl, trivial, ?_⟩
        show leR _ (addR s r)
        unfold addR
        rw [show okRb r = true from ho, hg]
        exact leVs_of_eq rfl
      · exact absurd (Decidable.not_not.1 h) (mergeF_err hg)
    | ok m =>
      have hlm : (m.map encR).length = m.length := List.length_map ..
      conv => whnf
      refine ⟨(fun h0 => absurd rfl h0), fun _ => ?_⟩
      conv => whnf
      refine ⟨fun h => ?_, fun h => ?_⟩ <;> (
        conv => whnf
        refine ⟨[], rfl, trivial, ?_⟩
        show leR _ (addR s r)
        unfold addR
        rw [show okRb r = true from ho, hg]
        show leR _ (.tup [L 7 (m.map encR), B (decide (s.length < m.length)), I 0])
        first | rw [decide_eq_true (show s.length < m.length by omega)] | rw [decide_eq_false (show ¬ s.length < m.length by omega)]
        exact leVs_of_eq rfl)
  · conv => whnf
    refine ⟨[], rfl, trivial, ?_⟩
    show leR _ (addR s r)
    unfold addR
    rw [show okRb r = false from ho]
    exact leVs_of_eq rfl
theorem refAdd_h : Holds Try.prog 16 refAddS := holds_of mix Try.func16 refAddLow (fun _ => rfl) refAddV

end Go.Proofs.Ytfghmpfiemmbgaa
