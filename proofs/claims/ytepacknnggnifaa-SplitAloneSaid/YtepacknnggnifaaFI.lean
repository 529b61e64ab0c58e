/- Split: exact, sums and totals. -/
import Derived.Test.YtepacknnggnifaaFH
import Derived.Test.YtepacknnggnifaaPA
import Derived.Test.YtepacknnggnifaaF9
namespace Go.Proofs.Ytepacknnggnifaa
open Go.RowKit

/-! skiarea/split.exact -/
def exactIr : IFn := ⟨32, [.tmp 6, .tmp 7],
  (.seq (.ops [
    ⟨(some 6), .mov, [.const (.int .i64 0)], none⟩,
    ⟨(some 7), .mov, [.const (.int .i64 0)], none⟩] false)
  (.seq (.ops [
    ⟨(some 13), .mov, [.tmp 0], none⟩,
    ⟨(some 14), .conv .u64, [.tmp 13], none⟩,
    ⟨(some 15), .mov, [.tmp 1], none⟩,
    ⟨(some 16), .conv .u64, [.tmp 15], none⟩,
    ⟨(some 17), .call 38, [.tmp 14, .tmp 16], none⟩,
    ⟨(some 12), .mov, [.tmp 17], none⟩,
    ⟨(some 18), .extract 0, [.tmp 12], none⟩,
    ⟨(some 19), .extract 1, [.tmp 12], none⟩,
    ⟨(some 8), .mov, [.tmp 18], none⟩,
    ⟨(some 9), .mov, [.tmp 19], none⟩] false)
  (.seq (.ops [
    ⟨(some 21), .mov, [.tmp 8], none⟩,
    ⟨(some 22), .mov, [.tmp 9], none⟩,
    ⟨(some 23), .mov, [.tmp 2], none⟩,
    ⟨(some 24), .conv .u64, [.tmp 23], none⟩,
    ⟨(some 25), .call 39, [.tmp 21, .tmp 22, .tmp 24], none⟩,
    ⟨(some 20), .mov, [.tmp 25], none⟩,
    ⟨(some 26), .extract 0, [.tmp 20], none⟩,
    ⟨(some 27), .extract 1, [.tmp 20], none⟩,
    ⟨(some 10), .mov, [.tmp 26], none⟩,
    ⟨(some 11), .mov, [.tmp 27], none⟩] false)
  (.seq (.ops [
    ⟨(some 28), .mov, [.tmp 10], none⟩,
    ⟨(some 29), .conv .i64, [.tmp 28], none⟩,
    ⟨(some 30), .mov, [.tmp 11], none⟩,
    ⟨(some 31), .conv .i64, [.tmp 30], none⟩,
    ⟨(some 6), .mov, [.tmp 29], none⟩,
    ⟨(some 7), .mov, [.tmp 31], none⟩] false)
  .ret))))⟩
theorem exactLow : lowF Try.prog {} Try.f25 = some exactIr := by kernel_rfl
def exactS : Spec := spec (Int × Int × Int) (fun p => [I p.1, I p.2.1, I p.2.2]) (fun p => (0 ≤ p.1 ∧ p.1 ≤ 1099511627776) ∧ (0 ≤ p.2.1 ∧ p.2.1 ≤ 1000000000) ∧ (1 ≤ p.2.2 ∧ p.2.2 ≤ 64000000000) ∧ p.2.1 ≤ p.2.2) (fun p => .tup [I (p.1 * p.2.1 / p.2.2), I (p.1 * p.2.1 % p.2.2)])
theorem exactV : fnV Try.prog exactIr exactS := by
  intro ⟨(a : Int), (w : Int), (s : Int)⟩ hx
  obtain ⟨⟨a0, a1⟩, ⟨w0, w1⟩, ⟨s0, s1⟩, hws⟩ : (0 ≤ a ∧ a ≤ 1099511627776) ∧ (0 ≤ w ∧ w ≤ 1000000000) ∧ (1 ≤ s ∧ s ≤ 64000000000) ∧ w ≤ s := hx
  have p0 : 0 ≤ a * w := Int.mul_nonneg a0 w0
  have p1 : a * w ≤ 1099511627776 * w := Int.mul_le_mul_of_nonneg_right a1 w0
  have p2 : a * w ≤ a * s := Int.mul_le_mul_of_nonneg_left hws a0
  have q0 : 0 ≤ a * w / s := Int.ediv_nonneg p0 (by omega)
  have q1 : a * w / s ≤ a := Int.ediv_le_of_le_mul (by omega) p2
  have r0 : 0 ≤ a * w % s := Int.emod_nonneg _ (by omega)
  have r1 : a * w % s < s := Int.emod_lt_of_pos _ (by omega)
  have hm : a * w / 18446744073709551616 * 18446744073709551616 + a * w % 18446744073709551616 = a * w := by omega
  show vc _ _ _ _ ⟨argEnv 0 [I a, I w, I s], [], 0⟩
  repeat' ((conv => whnf); first | (refine ⟨_, mul_h, (a, w), ⟨⟨a0, a1⟩, w0, w1⟩, leVs_of_eq rfl, .inl rfl, rfl, ?_⟩; show norm (.tup [U (a * w / 18446744073709551616), U (a * w % 18446744073709551616)]) _) | (refine ⟨_, div_h, (a * w / 18446744073709551616, a * w % 18446744073709551616, s), (by show ((0 ≤ a * w / 18446744073709551616 ∧ a * w / 18446744073709551616 < s) ∧ s < 68719476736) ∧ 0 ≤ a * w % 18446744073709551616 ∧ a * w % 18446744073709551616 < 18446744073709551616; omega), leVs_of_eq rfl, .inl rfl, rfl, ?_⟩; show norm (.tup [U ((a * w / 18446744073709551616 * 18446744073709551616 + a * w % 18446744073709551616) / s), U ((a * w / 18446744073709551616 * 18446744073709551616 + a * w % 18446744073709551616) % s)]) _; rw [hm]) | (refine ⟨inR_u64 (by omega) (by omega), ?_⟩) | refine ⟨⟨by omega, by omega⟩, ?_⟩ | fail)
  exact ⟨[], rfl, trivial, ⟨rfl, rfl, trivial⟩⟩
theorem exact_h : Holds Try.prog 25 exactS := holds_of mix Try.func25 exactLow (fun _ => rfl) exactV

/-! skiarea/skiarearef34.sum -/
def sumIr : IFn := ⟨18, [.tmp 2],
  (.seq (.ops [
    ⟨(some 2), .mov, [.const (.int .i64 0)], none⟩] false)
  (.seq (.ops [
    ⟨(some 3), .mov, [.const (.int .i64 0)], none⟩] false)
  (.seq (.seq (.ops [
    ⟨(some 4), .mov, [.const (.int .i64 0)], none⟩] false)
  (.block 0
    (.loop
      (.seq (.seq (.ops [
        ⟨(some 5), .mov, [.tmp 4], none⟩,
        ⟨(some 6), .mov, [.tmp 0], none⟩,
        ⟨(some 7), .len, [.tmp 6], none⟩,
        ⟨(some 8), .cmp .lss, [.tmp 5, .tmp 7], none⟩] false)
      (.cond (.tmp 8)
        .skip
        (.exit 0)))
      (.seq (.block 1
        (.ops [
          ⟨(some 11), .mov, [.tmp 3], none⟩,
          ⟨(some 12), .mov, [.tmp 0], none⟩,
          ⟨(some 13), .mov, [.tmp 4], none⟩,
          ⟨(some 14), .idx 1, [.tmp 12, .tmp 13], none⟩,
          ⟨(some 15), .load 1 false, [.tmp 14], none⟩,
          ⟨(some 16), .bin .add .i64 false, [.tmp 11, .tmp 15], none⟩,
          ⟨(some 3), .mov, [.tmp 16], none⟩] false))
      (.ops [
        ⟨(some 9), .mov, [.tmp 4], none⟩,
        ⟨(some 10), .bin .add .i64 false, [.tmp 9, .const (.int .i64 1)], none⟩,
        ⟨(some 4), .mov, [.tmp 10], none⟩] false))))))
  (.seq (.ops [
    ⟨(some 17), .mov, [.tmp 3], none⟩,
    ⟨(some 2), .mov, [.tmp 17], none⟩] false)
  .ret))))⟩
theorem sumLow : lowF Try.prog {} Try.f29 = some sumIr := by kernel_rfl
def sumS : Spec := spec (List Int) (fun l => [L 1 (l.map e1)]) (fun l => l.length ≤ 1000000 ∧ ∀ x ∈ l, -2199023255552 ≤ x ∧ x ≤ 2199023255552) (fun l => I l.sum)
theorem sumV : fnV Try.prog sumIr sumS := by
  intro (l : List Int) hx
  obtain ⟨hl0, hb⟩ : l.length ≤ 1000000 ∧ ∀ x ∈ l, -2199023255552 ≤ x ∧ x ≤ 2199023255552 := hx
  have hl : (l.map e1).length = l.length := List.length_map ..
  show vc _ _ _ _ ⟨argEnv 0 [L 1 (l.map e1)], [], 0⟩
  conv => whnf
  refine ⟨Nat × Int, fun xq => ⟨[(0, L 1 (l.map e1)), (3, I xq.2), (4, I xq.1)], [], 0⟩, fun xq => xq.1 ≤ l.length ∧ xq.2 = (l.take xq.1).sum, fun xq => l.length - xq.1, ⟨(0, 0), ?_, [], ⟨⟨rfl, rfl⟩, ⟨⟨rfl, rfl⟩, ⟨⟨rfl, rfl⟩, trivial⟩⟩⟩, trivial, rfl, rfl, rfl⟩, ?_⟩
  · (try dsimp only); exact ⟨Nat.zero_le _, rfl⟩
  rintro ⟨k, s⟩ hk
  obtain ⟨hk, hs⟩ : k ≤ l.length ∧ s = (l.take k).sum := hk
  (try dsimp only)
  by_cases hkl : k < l.length
  · obtain ⟨x, hx⟩ := getElem_some hkl
    have hbk := sum_bnd (l := l.take k) fun y hy => hb y (List.mem_of_mem_take hy)
    rw [← hs, List.length_take] at hbk
    have hbx := hb x (List.mem_of_getElem? hx)
    repeat' ((conv => whnf); first | (refine ⟨fun h => ?_, fun h => ?_⟩ <;> try (exfalso; first | omega | exact absurd h (by decide) | exact h rfl)) | (refine ⟨by omega, fun r hrr => ?_⟩; obtain rfl := get_row hrr hx) | (refine ⟨(k + 1, _), ⟨?_, by (try dsimp only); omega⟩, [], ⟨⟨rfl, rfl⟩, ⟨⟨rfl, rfl⟩, ⟨⟨rfl, rfl⟩, trivial⟩⟩⟩, trivial, rfl, rfl, rfl⟩; (try dsimp only); exact ⟨by omega, by rw [sum_take hx, hs]⟩) | refine ⟨⟨by omega, by omega⟩, ?_⟩ | fail)
  · rw [take_end hkl] at hs
    repeat' ((conv => whnf); first | (refine ⟨fun h => ?_, fun h => ?_⟩ <;> try (exfalso; first | omega | exact absurd h (by decide) | exact h rfl)) | fail | fail)
    exact ⟨[], rfl, trivial, congrArg (CV.int .i64) hs⟩
theorem sum_h : Holds Try.prog 29 sumS := holds_of mix Try.func29 sumLow (fun _ => rfl) sumV

/-! skiarea/split.Total -/
def totalIr : IFn := ⟨14, [.tmp 2, .tmp 3],
  (.seq (.ops [
    ⟨(some 2), .mov, [.const (.int .i64 0)], none⟩,
    ⟨(some 3), .mov, [.const (.int .i64 0)], none⟩] false)
  (.seq (.ops [
    ⟨(some 7), .mov, [.tmp 0], none⟩,
    ⟨(some 8), .call 34, [.tmp 7, .func 35], none⟩,
    ⟨(some 6), .mov, [.tmp 8], none⟩,
    ⟨(some 9), .extract 0, [.tmp 6], none⟩,
    ⟨(some 10), .extract 1, [.tmp 6], none⟩,
    ⟨(some 4), .mov, [.tmp 9], none⟩,
    ⟨(some 5), .mov, [.tmp 10], none⟩] false)
  (.seq (.seq (.ops [
    ⟨(some 11), .mov, [.tmp 5], none⟩,
    ⟨(some 12), .not, [.tmp 11], none⟩] false)
  (.cond (.tmp 12)
    (.seq (.ops [
      ⟨(some 2), .mov, [.const (.int .i64 0)], none⟩,
      ⟨(some 3), .mov, [.const (.int .i64 12)], none⟩] false)
    .ret)
    .skip))
  (.seq (.ops [
    ⟨(some 13), .mov, [.tmp 4], none⟩,
    ⟨(some 2), .mov, [.tmp 13], none⟩,
    ⟨(some 3), .mov, [.const (.int .i64 0)], none⟩] false)
  .ret))))⟩
theorem totalLow : lowF Try.prog {} Try.f20 = some totalIr := by kernel_rfl
def totalS : Spec := spec (List Share) (fun l => [L 2 (l.map encS)]) (fun l => l.length ≤ 1000000) (fun l => totT (runO 0 (l.map fun x : Share => x.a)))
theorem totalV : fnV Try.prog totalIr totalS := by
  intro (l : List Share) hx
  replace hx : l.length ≤ 1000000 := hx
  show vc _ _ _ _ ⟨argEnv 0 [L 2 (l.map encS)], [], 0⟩
  cases hr : runO 0 (l.map fun x : Share => x.a) with
  | none =>
    repeat' ((conv => whnf); first | (refine ⟨fun h => ?_, fun h => ?_⟩ <;> try (exfalso; first | omega | exact absurd h (by decide) | exact h rfl)) | (refine ⟨_, runS_h, l, hx, leVs_of_eq rfl, .inl rfl, rfl, ?_⟩; show norm (optT (runO 0 (l.map fun x : Share => x.a))) _; rw [hr]) | fail)
    all_goals (refine ⟨[], rfl, trivial, ?_⟩; show leR _ (totT (runO 0 (l.map fun x : Share => x.a))); rw [hr]; exact ⟨rfl, rfl, trivial⟩)
  | some v =>
    repeat' ((conv => whnf); first | (refine ⟨fun h => ?_, fun h => ?_⟩ <;> try (exfalso; first | omega | exact absurd h (by decide) | exact h rfl)) | (refine ⟨_, runS_h, l, hx, leVs_of_eq rfl, .inl rfl, rfl, ?_⟩; show norm (optT (runO 0 (l.map fun x : Share => x.a))) _; rw [hr]) | fail)
    all_goals (refine ⟨[], rfl, trivial, ?_⟩; show leR _ (totT (runO 0 (l.map fun x : Share => x.a))); rw [hr]; exact ⟨rfl, rfl, trivial⟩)
theorem total_h : Holds Try.prog 20 totalS := holds_of mix Try.func20 totalLow (fun _ => rfl) totalV

/-! skiarea/skiarearef34.Total -/
def rtotalIr : IFn := ⟨28, [.tmp 2, .tmp 3],
  (.seq (.ops [
    ⟨(some 2), .mov, [.const (.int .i64 0)], none⟩,
    ⟨(some 3), .mov, [.const (.int .i64 0)], none⟩] false)
  (.seq (.ops [
    ⟨(some 4), .mov, [.const (.int .i64 0)], none⟩] false)
  (.seq (.seq (.ops [
    ⟨(some 5), .mov, [.const (.int .i64 0)], none⟩] false)
  (.block 0
    (.loop
      (.seq (.seq (.ops [
        ⟨(some 8), .mov, [.tmp 5], none⟩,
        ⟨(some 9), .mov, [.tmp 0], none⟩,
        ⟨(some 10), .len, [.tmp 9], none⟩,
        ⟨(some 11), .cmp .lss, [.tmp 8, .tmp 10], none⟩] false)
      (.cond (.tmp 11)
        .skip
        (.exit 0)))
      (.seq (.block 1
        (.seq (.ops [
          ⟨(some 15), .mov, [.tmp 4], none⟩,
          ⟨(some 16), .mov, [.tmp 0], none⟩,
          ⟨(some 17), .mov, [.tmp 5], none⟩,
          ⟨(some 18), .idx 2, [.tmp 16, .tmp 17], none⟩,
          ⟨(some 19), .faddr 1, [.tmp 18], none⟩,
          ⟨(some 20), .load 1 false, [.tmp 19], none⟩,
          ⟨(some 21), .call 33, [.tmp 15, .tmp 20], none⟩,
          ⟨(some 14), .mov, [.tmp 21], none⟩,
          ⟨(some 22), .extract 0, [.tmp 14], none⟩,
          ⟨(some 23), .extract 1, [.tmp 14], none⟩,
          ⟨(some 6), .mov, [.tmp 22], none⟩,
          ⟨(some 7), .mov, [.tmp 23], none⟩] false)
        (.seq (.seq (.ops [
          ⟨(some 24), .mov, [.tmp 7], none⟩,
          ⟨(some 25), .not, [.tmp 24], none⟩] false)
        (.cond (.tmp 25)
          (.seq (.ops [
            ⟨(some 2), .mov, [.const (.int .i64 0)], none⟩,
            ⟨(some 3), .mov, [.const (.int .i64 12)], none⟩] false)
          .ret)
          .skip))
        (.ops [
          ⟨(some 26), .mov, [.tmp 6], none⟩,
          ⟨(some 4), .mov, [.tmp 26], none⟩] false))))
      (.ops [
        ⟨(some 12), .mov, [.tmp 5], none⟩,
        ⟨(some 13), .bin .add .i64 false, [.tmp 12, .const (.int .i64 1)], none⟩,
        ⟨(some 5), .mov, [.tmp 13], none⟩] false))))))
  (.seq (.ops [
    ⟨(some 27), .mov, [.tmp 4], none⟩,
    ⟨(some 2), .mov, [.tmp 27], none⟩,
    ⟨(some 3), .mov, [.const (.int .i64 0)], none⟩] false)
  .ret))))⟩
theorem rtotalLow : lowF Try.prog {} Try.f21 = some rtotalIr := by kernel_rfl
def rtotalS : Spec := spec (List Share) (fun l => [L 2 (l.map encS)]) (fun l => l.length ≤ 1000000) (fun l => totT (runO 0 (l.map fun x : Share => x.a)))
theorem rtotalV : fnV Try.prog rtotalIr rtotalS := by
  intro (l : List Share) hx
  replace hx : l.length ≤ 1000000 := hx
  have hl : (l.map encS).length = l.length := List.length_map ..
  show vc _ _ _ _ ⟨argEnv 0 [L 2 (l.map encS)], [], 0⟩
  conv => whnf
  refine ⟨Nat × Int, fun xq => ⟨[(0, L 2 (l.map encS)), (4, I xq.2), (5, I xq.1)], [], 0⟩, fun xq => xq.1 ≤ l.length ∧ (-1099511627776 ≤ xq.2 ∧ xq.2 ≤ 1099511627776) ∧ runO xq.2 ((l.map fun x : Share => x.a).drop xq.1) = runO 0 (l.map fun x : Share => x.a), fun xq => l.length - xq.1, ⟨(0, 0), ?_, [], ⟨⟨rfl, rfl⟩, ⟨⟨rfl, rfl⟩, ⟨⟨rfl, rfl⟩, trivial⟩⟩⟩, trivial, rfl, rfl, rfl⟩, ?_⟩
  · (try dsimp only); exact ⟨Nat.zero_le _, by omega, rfl⟩
  rintro ⟨k, s⟩ hk
  obtain ⟨hk, ⟨s1, s2⟩, hg⟩ : k ≤ l.length ∧ (-1099511627776 ≤ s ∧ s ≤ 1099511627776) ∧ runO s ((l.map fun x : Share => x.a).drop k) = runO 0 (l.map fun x : Share => x.a) := hk
  (try dsimp only)
  by_cases hkl : k < l.length
  · obtain ⟨x, hx⟩ := getElem_some hkl
    have hxv : (l.map fun x : Share => x.a)[k]? = some x.a := by rw [List.getElem?_map, hx]; rfl
    rw [runO_step hxv] at hg
    cases hp : plusF s x.a with
    | none =>
      rw [hp] at hg
      repeat' ((conv => whnf); first | (refine ⟨fun h => ?_, fun h => ?_⟩ <;> try (exfalso; first | omega | exact absurd h (by decide) | exact h rfl)) | (refine ⟨by omega, fun r hrr => ?_⟩; obtain rfl := get_row hrr hx) | (refine ⟨_, more_h, (s, x.a), ⟨s1, s2⟩, leVs_of_eq rfl, .inl rfl, rfl, ?_⟩; show norm (optT (plusF s x.a)) _; rw [hp]) | fail | fail)
      all_goals (refine ⟨[], rfl, trivial, ?_⟩; show leR _ (totT (runO 0 (l.map fun x : Share => x.a))); rw [← hg]; exact ⟨rfl, rfl, trivial⟩)
    | some v =>
      rw [hp] at hg
      obtain ⟨v1, v2⟩ := plusF_bnd hp
      repeat' ((conv => whnf); first | (refine ⟨fun h => ?_, fun h => ?_⟩ <;> try (exfalso; first | omega | exact absurd h (by decide) | exact h rfl)) | (refine ⟨by omega, fun r hrr => ?_⟩; obtain rfl := get_row hrr hx) | (refine ⟨_, more_h, (s, x.a), ⟨s1, s2⟩, leVs_of_eq rfl, .inl rfl, rfl, ?_⟩; show norm (optT (plusF s x.a)) _; rw [hp]) | (refine ⟨(k + 1, _), ⟨?_, by (try dsimp only); omega⟩, [], ⟨⟨rfl, rfl⟩, ⟨⟨rfl, rfl⟩, ⟨⟨rfl, rfl⟩, trivial⟩⟩⟩, trivial, rfl, rfl, rfl⟩; (try dsimp only); exact ⟨by omega, by omega, hg⟩) | refine ⟨⟨by omega, by omega⟩, ?_⟩ | fail)
  · have hkv : ¬ k < (l.map fun x : Share => x.a).length := by rw [List.length_map]; exact hkl
    rw [runO_end hkv] at hg
    repeat' ((conv => whnf); first | (refine ⟨fun h => ?_, fun h => ?_⟩ <;> try (exfalso; first | omega | exact absurd h (by decide) | exact h rfl)) | fail | fail)
    all_goals (refine ⟨[], rfl, trivial, ?_⟩; show leR _ (totT (runO 0 (l.map fun x : Share => x.a))); rw [← hg]; exact ⟨rfl, rfl, trivial⟩)
theorem rtotal_h : Holds Try.prog 21 rtotalS := holds_of mix Try.func21 rtotalLow (fun _ => rfl) rtotalV

end Go.Proofs.Ytepacknnggnifaa
