/- Split: sums. -/
import Derived.Test.YtepacknnggnifaaF1
import Derived.Test.YtepacknnggnifaaP4
namespace Go.Proofs.Ytepacknnggnifaa
open Go.RowKit
abbrev encS (r : Share) : List CV := [.int .i64 r.o, .int .i64 r.a]
abbrev aS (r : Share) : SV := .agg ((encS r).map .c)

/-! skiarea/split.plus -/
def plusIr : IFn := ⟨19, [.tmp 4, .tmp 5],
  (.seq (.ops [
    ⟨(some 4), .mov, [.const (.int .i64 0)], none⟩,
    ⟨(some 5), .mov, [.const (.bool false)], none⟩] false)
  (.seq (.seq (.ops [
    ⟨(some 6), .mov, [.tmp 1], none⟩,
    ⟨(some 7), .mov, [.tmp 0], none⟩,
    ⟨(some 8), .bin .sub .i64 false, [.const (.int .i64 1099511627776), .tmp 7], none⟩,
    ⟨(some 9), .cmp .gtr, [.tmp 6, .tmp 8], none⟩,
    ⟨(some 10), .mov, [.tmp 9], none⟩,
    ⟨(some 11), .mov, [.tmp 1], (some (10, false))⟩,
    ⟨(some 12), .mov, [.tmp 0], (some (10, false))⟩,
    ⟨(some 13), .bin .sub .i64 false, [.const (.int .i64 (-1099511627776)), .tmp 12], (some (10, false))⟩,
    ⟨(some 14), .cmp .lss, [.tmp 11, .tmp 13], (some (10, false))⟩,
    ⟨(some 15), .pick, [.tmp 10, .const (.bool true), .tmp 14], none⟩] false)
  (.cond (.tmp 15)
    (.seq (.ops [
      ⟨(some 4), .mov, [.const (.int .i64 0)], none⟩,
      ⟨(some 5), .mov, [.const (.bool false)], none⟩] false)
    .ret)
    .skip))
  (.seq (.ops [
    ⟨(some 16), .mov, [.tmp 0], none⟩,
    ⟨(some 17), .mov, [.tmp 1], none⟩,
    ⟨(some 18), .bin .add .i64 false, [.tmp 16, .tmp 17], none⟩,
    ⟨(some 4), .mov, [.tmp 18], none⟩,
    ⟨(some 5), .mov, [.const (.bool true)], none⟩] false)
  .ret)))⟩
theorem plusLow : lowF Try.prog {} Try.f30 = some plusIr := by kernel_rfl
def plusS : Spec := spec (Int × Int) (fun p => [I p.1, I p.2]) (fun p => -1099511627776 ≤ p.1 ∧ p.1 ≤ 1099511627776) (fun p => optT (plusF p.1 p.2))
theorem plusV : fnV Try.prog plusIr plusS := by
  intro ⟨(s : Int), (n : Int)⟩ hx
  obtain ⟨h1, h2⟩ : -1099511627776 ≤ s ∧ s ≤ 1099511627776 := hx
  show vc _ _ _ _ ⟨argEnv 0 [I s, I n], [], 0⟩
  by_cases h : 1099511627776 - s < n ∨ n < -1099511627776 - s
  · have hf : plusF s n = none := if_pos h
    repeat' ((conv => whnf); first | (refine ⟨fun h => ?_, fun h => ?_⟩ <;> try (exfalso; first | omega | exact absurd h (by decide) | exact h rfl)) | refine ⟨⟨by omega, by omega⟩, ?_⟩ | fail | fail)
    all_goals (refine ⟨[], rfl, trivial, ?_⟩; show leR _ (optT (plusF s n)); rw [hf]; exact ⟨rfl, rfl, trivial⟩)
  · have hf : plusF s n = some (s + n) := if_neg h
    repeat' ((conv => whnf); first | (refine ⟨fun h => ?_, fun h => ?_⟩ <;> try (exfalso; first | omega | exact absurd h (by decide) | exact h rfl)) | refine ⟨⟨by omega, by omega⟩, ?_⟩ | fail | fail)
    all_goals (refine ⟨[], rfl, trivial, ?_⟩; show leR _ (optT (plusF s n)); rw [hf]; exact ⟨rfl, rfl, trivial⟩)
theorem plus_h : Holds Try.prog 30 plusS := holds_of mix Try.func30 plusLow (fun _ => rfl) plusV

/-! skiarea/skiarearef34.more -/
def moreIr : IFn := ⟨19, [.tmp 4, .tmp 5],
  (.seq (.ops [
    ⟨(some 4), .mov, [.const (.int .i64 0)], none⟩,
    ⟨(some 5), .mov, [.const (.bool false)], none⟩] false)
  (.seq (.seq (.ops [
    ⟨(some 6), .mov, [.tmp 1], none⟩,
    ⟨(some 7), .mov, [.tmp 0], none⟩,
    ⟨(some 8), .bin .sub .i64 false, [.const (.int .i64 1099511627776), .tmp 7], none⟩,
    ⟨(some 9), .cmp .gtr, [.tmp 6, .tmp 8], none⟩,
    ⟨(some 10), .mov, [.tmp 9], none⟩,
    ⟨(some 11), .mov, [.tmp 1], (some (10, false))⟩,
    ⟨(some 12), .mov, [.tmp 0], (some (10, false))⟩,
    ⟨(some 13), .bin .sub .i64 false, [.const (.int .i64 (-1099511627776)), .tmp 12], (some (10, false))⟩,
    ⟨(some 14), .cmp .lss, [.tmp 11, .tmp 13], (some (10, false))⟩,
    ⟨(some 15), .pick, [.tmp 10, .const (.bool true), .tmp 14], none⟩] false)
  (.cond (.tmp 15)
    (.seq (.ops [
      ⟨(some 4), .mov, [.const (.int .i64 0)], none⟩,
      ⟨(some 5), .mov, [.const (.bool false)], none⟩] false)
    .ret)
    .skip))
  (.seq (.ops [
    ⟨(some 16), .mov, [.tmp 0], none⟩,
    ⟨(some 17), .mov, [.tmp 1], none⟩,
    ⟨(some 18), .bin .add .i64 false, [.tmp 16, .tmp 17], none⟩,
    ⟨(some 4), .mov, [.tmp 18], none⟩,
    ⟨(some 5), .mov, [.const (.bool true)], none⟩] false)
  .ret)))⟩
theorem moreLow : lowF Try.prog {} Try.f33 = some moreIr := by kernel_rfl
def moreS : Spec := spec (Int × Int) (fun p => [I p.1, I p.2]) (fun p => -1099511627776 ≤ p.1 ∧ p.1 ≤ 1099511627776) (fun p => optT (plusF p.1 p.2))
theorem moreV : fnV Try.prog moreIr moreS := by
  intro ⟨(s : Int), (n : Int)⟩ hx
  obtain ⟨h1, h2⟩ : -1099511627776 ≤ s ∧ s ≤ 1099511627776 := hx
  show vc _ _ _ _ ⟨argEnv 0 [I s, I n], [], 0⟩
  by_cases h : 1099511627776 - s < n ∨ n < -1099511627776 - s
  · have hf : plusF s n = none := if_pos h
    repeat' ((conv => whnf); first | (refine ⟨fun h => ?_, fun h => ?_⟩ <;> try (exfalso; first | omega | exact absurd h (by decide) | exact h rfl)) | refine ⟨⟨by omega, by omega⟩, ?_⟩ | fail | fail)
    all_goals (refine ⟨[], rfl, trivial, ?_⟩; show leR _ (optT (plusF s n)); rw [hf]; exact ⟨rfl, rfl, trivial⟩)
  · have hf : plusF s n = some (s + n) := if_neg h
    repeat' ((conv => whnf); first | (refine ⟨fun h => ?_, fun h => ?_⟩ <;> try (exfalso; first | omega | exact absurd h (by decide) | exact h rfl)) | refine ⟨⟨by omega, by omega⟩, ?_⟩ | fail | fail)
    all_goals (refine ⟨[], rfl, trivial, ?_⟩; show leR _ (optT (plusF s n)); rw [hf]; exact ⟨rfl, rfl, trivial⟩)
theorem more_h : Holds Try.prog 33 moreS := holds_of mix Try.func33 moreLow (fun _ => rfl) moreV

/-! skiarea/split.check$1 -/
def idwIr : IFn := ⟨4, [.tmp 2],
  (.seq (.ops [
    ⟨(some 2), .mov, [.const (.int .i64 0)], none⟩] false)
  (.seq (.ops [
    ⟨(some 3), .mov, [.tmp 0], none⟩,
    ⟨(some 2), .mov, [.tmp 3], none⟩] false)
  .ret))⟩
theorem idwLow : lowF Try.prog {} Try.f37 = some idwIr := by kernel_rfl
def idwS : Spec := spec Int (fun n => [I n]) (fun _ => True) (fun n => I n)
theorem idwV : fnV Try.prog idwIr idwS := by
  intro (n : Int) hx
  show vc _ _ _ _ ⟨argEnv 0 [I n], [], 0⟩
  conv => whnf
  exact ⟨[], rfl, trivial, rfl⟩
theorem idw_h : Holds Try.prog 37 idwS := holds_of mix Try.func37 idwLow (fun _ => rfl) idwV

/-! skiarea/split.Total$1 -/
def amtIr : IFn := ⟨5, [.tmp 2],
  (.seq (.ops [
    ⟨(some 1), .box, [.tmp 0], none⟩,
    ⟨(some 2), .mov, [.const (.int .i64 0)], none⟩] false)
  (.seq (.ops [
    ⟨(some 3), .faddr 1, [.tmp 1], none⟩,
    ⟨(some 4), .load 1 false, [.tmp 3], none⟩,
    ⟨(some 2), .mov, [.tmp 4], none⟩] false)
  .ret))⟩
theorem amtLow : lowF Try.prog {} Try.f35 = some amtIr := by kernel_rfl
def amtS : Spec := spec Share (fun x => [aS x]) (fun _ => True) (fun x => I x.a)
theorem amtV : fnV Try.prog amtIr amtS := by
  intro (x : Share) hx
  show vc _ _ _ _ ⟨argEnv 0 [aS x], [], 0⟩
  conv => whnf
  exact ⟨[], rfl, trivial, rfl⟩
theorem amt_h : Holds Try.prog 35 amtS := holds_of mix Try.func35 amtLow (fun _ => rfl) amtV
theorem cw : callable Try.prog 37 = true := by kernel_rfl
theorem ca : callable Try.prog 35 = true := by kernel_rfl

/-! skiarea/split.running[int] -/
def runIIr : IFn := ⟨28, [.tmp 4, .tmp 5],
  (.seq (.ops [
    ⟨(some 4), .mov, [.const (.int .i64 0)], none⟩,
    ⟨(some 5), .mov, [.const (.bool false)], none⟩] false)
  (.seq (.ops [
    ⟨(some 6), .mov, [.const (.int .i64 0)], none⟩,
    ⟨(some 7), .mov, [.const (.bool true)], none⟩] false)
  (.seq (.seq (.ops [
    ⟨(some 10), .mov, [.tmp 0], none⟩,
    ⟨(some 11), .len, [.tmp 10], none⟩,
    ⟨(some 12), .mov, [.const (.int .i64 0)], none⟩] false)
  (.block 0
    (.loop
      (.seq (.ops [
        ⟨(some 13), .cmp .lss, [.tmp 12, .tmp 11], none⟩] false)
      (.seq (.cond (.tmp 13)
        .skip
        (.exit 0))
      (.seq (.block 1
        (.seq (.ops [
          ⟨(some 14), .idx 1, [.tmp 10, .tmp 12], none⟩,
          ⟨(some 15), .load 1 false, [.tmp 14], none⟩,
          ⟨(some 9), .mov, [.tmp 15], none⟩] false)
        (.seq (.ops [
          ⟨(some 17), .mov, [.tmp 6], none⟩,
          ⟨(some 18), .mov, [.tmp 1], none⟩,
          ⟨(some 19), .mov, [.tmp 9], none⟩,
          ⟨(some 20), .callv, [.tmp 18, .tmp 19], none⟩,
          ⟨(some 21), .call 30, [.tmp 17, .tmp 20], none⟩,
          ⟨(some 16), .mov, [.tmp 21], none⟩,
          ⟨(some 22), .extract 0, [.tmp 16], none⟩,
          ⟨(some 23), .extract 1, [.tmp 16], none⟩,
          ⟨(some 6), .mov, [.tmp 22], none⟩,
          ⟨(some 7), .mov, [.tmp 23], none⟩] false)
        (.seq (.ops [
          ⟨(some 24), .mov, [.tmp 7], none⟩,
          ⟨(some 25), .not, [.tmp 24], none⟩] false)
        (.cond (.tmp 25)
          (.seq (.ops [
            ⟨(some 4), .mov, [.const (.int .i64 0)], none⟩,
            ⟨(some 5), .mov, [.const (.bool false)], none⟩] false)
          .ret)
          .skip)))))
      (.ops [
        ⟨(some 26), .bin .add .i64 false, [.tmp 12, .const (.int .i64 1)], none⟩,
        ⟨(some 12), .mov, [.tmp 26], none⟩] false)))))))
  (.seq (.ops [
    ⟨(some 27), .mov, [.tmp 6], none⟩,
    ⟨(some 4), .mov, [.tmp 27], none⟩,
    ⟨(some 5), .mov, [.const (.bool true)], none⟩] false)
  .ret))))⟩
theorem runILow : lowF Try.prog {} Try.f36 = some runIIr := by kernel_rfl
def runIS : Spec := spec (List Int) (fun l => [L 1 (l.map e1), .fn 37 []]) (fun l => l.length ≤ 1000000) (fun l => optT (runO 0 (l.map fun x : Int => x)))
theorem runIV : fnV Try.prog runIIr runIS := by
  intro (l : List Int) hx
  replace hx : l.length ≤ 1000000 := hx
  show vc _ _ _ _ ⟨argEnv 0 [L 1 (l.map e1), .fn 37 []], [], 0⟩
  have hl : (l.map e1).length = l.length := List.length_map ..
  conv => whnf
  refine ⟨Nat × Int, fun xq => ⟨[(0, L 1 (l.map e1)), (1, .fn 37 []), (6, I xq.2), (10, L 1 (l.map e1)), (11, I (l.map e1).length), (12, I xq.1)], [], 0⟩, fun xq => xq.1 ≤ l.length ∧ (-1099511627776 ≤ xq.2 ∧ xq.2 ≤ 1099511627776) ∧ runO xq.2 ((l.map fun x : Int => x).drop xq.1) = runO 0 (l.map fun x : Int => x), fun xq => l.length - xq.1, ⟨(0, 0), ?_, [], ⟨⟨rfl, rfl⟩, ⟨⟨rfl, rfl⟩, ⟨⟨rfl, rfl⟩, ⟨⟨rfl, rfl⟩, ⟨⟨rfl, rfl⟩, ⟨⟨rfl, rfl⟩, trivial⟩⟩⟩⟩⟩⟩, trivial, rfl, rfl, rfl⟩, ?_⟩
  · (try dsimp only); exact ⟨Nat.zero_le _, by omega, rfl⟩
  rintro ⟨k, s⟩ hk
  obtain ⟨hk, ⟨s1, s2⟩, hg⟩ : k ≤ l.length ∧ (-1099511627776 ≤ s ∧ s ≤ 1099511627776) ∧ runO s ((l.map fun x : Int => x).drop k) = runO 0 (l.map fun x : Int => x) := hk
  (try dsimp only)
  by_cases hkl : k < l.length
  · obtain ⟨x, hx⟩ := getElem_some hkl
    have hxv : (l.map fun x : Int => x)[k]? = some x := by rw [List.getElem?_map, hx]; rfl
    rw [runO_step hxv] at hg
    cases hp : plusF s x with
    | none =>
      rw [hp] at hg
      repeat' ((conv => whnf); first | (refine ⟨fun h => ?_, fun h => ?_⟩ <;> try (exfalso; first | omega | exact absurd h (by decide) | exact h rfl)) | (refine ⟨by omega, fun r hrr => ?_⟩; obtain rfl := get_row hrr hx) | (refine ⟨cw, _, idw_h, x, trivial, leVs_of_eq rfl, .inr rfl, rfl, ?_⟩; show norm (I x) _) | (refine ⟨_, plus_h, (s, x), ⟨s1, s2⟩, leVs_of_eq rfl, .inl rfl, rfl, ?_⟩; show norm (optT (plusF s x)) _; rw [hp]) | fail | fail)
      all_goals (refine ⟨[], rfl, trivial, ?_⟩; show leR _ (optT (runO 0 (l.map fun x : Int => x))); rw [← hg]; exact ⟨rfl, rfl, trivial⟩)
    | some t =>
      rw [hp] at hg
      have hb := plusF_bnd hp
      repeat' ((conv => whnf); first | (refine ⟨(k + 1, _), ⟨?_, by (try dsimp only); omega⟩, [], ⟨⟨rfl, rfl⟩, ⟨⟨rfl, rfl⟩, ⟨⟨rfl, rfl⟩, ⟨⟨rfl, rfl⟩, ⟨⟨rfl, rfl⟩, ⟨⟨rfl, rfl⟩, trivial⟩⟩⟩⟩⟩⟩, trivial, rfl, rfl, rfl⟩; (try dsimp only); exact ⟨by omega, hb, hg⟩) | (refine ⟨fun h => ?_, fun h => ?_⟩ <;> try (exfalso; first | omega | exact absurd h (by decide) | exact h rfl)) | (refine ⟨by omega, fun r hrr => ?_⟩; obtain rfl := get_row hrr hx) | (refine ⟨cw, _, idw_h, x, trivial, leVs_of_eq rfl, .inr rfl, rfl, ?_⟩; show norm (I x) _) | (refine ⟨_, plus_h, (s, x), ⟨s1, s2⟩, leVs_of_eq rfl, .inl rfl, rfl, ?_⟩; show norm (optT (plusF s x)) _; rw [hp]) | refine ⟨⟨by omega, by omega⟩, ?_⟩ | fail)
  · rw [runO_end (by rw [List.length_map]; exact hkl)] at hg
    repeat' ((conv => whnf); first | (refine ⟨fun h => ?_, fun h => ?_⟩ <;> try (exfalso; first | omega | exact absurd h (by decide) | exact h rfl)) | fail | fail)
    all_goals (refine ⟨[], rfl, trivial, ?_⟩; show leR _ (optT (runO 0 (l.map fun x : Int => x))); rw [← hg]; exact ⟨rfl, rfl, trivial⟩)
theorem runI_h : Holds Try.prog 36 runIS := holds_of mix Try.func36 runILow (fun _ => rfl) runIV

/-! skiarea/split.running[skiarea/api.Share] -/
def runSIr : IFn := ⟨28, [.tmp 4, .tmp 5],
  (.seq (.ops [
    ⟨(some 4), .mov, [.const (.int .i64 0)], none⟩,
    ⟨(some 5), .mov, [.const (.bool false)], none⟩] false)
  (.seq (.ops [
    ⟨(some 6), .mov, [.const (.int .i64 0)], none⟩,
    ⟨(some 7), .mov, [.const (.bool true)], none⟩] false)
  (.seq (.seq (.ops [
    ⟨(some 10), .mov, [.tmp 0], none⟩,
    ⟨(some 11), .len, [.tmp 10], none⟩,
    ⟨(some 12), .mov, [.const (.int .i64 0)], none⟩] false)
  (.block 0
    (.loop
      (.seq (.ops [
        ⟨(some 13), .cmp .lss, [.tmp 12, .tmp 11], none⟩] false)
      (.seq (.cond (.tmp 13)
        .skip
        (.exit 0))
      (.seq (.block 1
        (.seq (.ops [
          ⟨(some 14), .idx 2, [.tmp 10, .tmp 12], none⟩,
          ⟨(some 15), .load 2 true, [.tmp 14], none⟩,
          ⟨(some 9), .alloc [.int .i64 0, .int .i64 0], [], none⟩,
          ⟨none, .store 2, [.tmp 9, .tmp 15], none⟩] false)
        (.seq (.ops [
          ⟨(some 17), .mov, [.tmp 6], none⟩,
          ⟨(some 18), .mov, [.tmp 1], none⟩,
          ⟨(some 19), .load 2 true, [.tmp 9], none⟩,
          ⟨(some 20), .callv, [.tmp 18, .tmp 19], none⟩,
          ⟨(some 21), .call 30, [.tmp 17, .tmp 20], none⟩,
          ⟨(some 16), .mov, [.tmp 21], none⟩,
          ⟨(some 22), .extract 0, [.tmp 16], none⟩,
          ⟨(some 23), .extract 1, [.tmp 16], none⟩,
          ⟨(some 6), .mov, [.tmp 22], none⟩,
          ⟨(some 7), .mov, [.tmp 23], none⟩] false)
        (.seq (.ops [
          ⟨(some 24), .mov, [.tmp 7], none⟩,
          ⟨(some 25), .not, [.tmp 24], none⟩] false)
        (.cond (.tmp 25)
          (.seq (.ops [
            ⟨(some 4), .mov, [.const (.int .i64 0)], none⟩,
            ⟨(some 5), .mov, [.const (.bool false)], none⟩] false)
          .ret)
          .skip)))))
      (.ops [
        ⟨(some 26), .bin .add .i64 false, [.tmp 12, .const (.int .i64 1)], none⟩,
        ⟨(some 12), .mov, [.tmp 26], none⟩] false)))))))
  (.seq (.ops [
    ⟨(some 27), .mov, [.tmp 6], none⟩,
    ⟨(some 4), .mov, [.tmp 27], none⟩,
    ⟨(some 5), .mov, [.const (.bool true)], none⟩] false)
  .ret))))⟩
theorem runSLow : lowF Try.prog {} Try.f34 = some runSIr := by kernel_rfl
def runSS : Spec := spec (List Share) (fun l => [L 2 (l.map encS), .fn 35 []]) (fun l => l.length ≤ 1000000) (fun l => optT (runO 0 (l.map fun x : Share => x.a)))
theorem runSV : fnV Try.prog runSIr runSS := by
  intro (l : List Share) hx
  replace hx : l.length ≤ 1000000 := hx
  show vc _ _ _ _ ⟨argEnv 0 [L 2 (l.map encS), .fn 35 []], [], 0⟩
  have hl : (l.map encS).length = l.length := List.length_map ..
  conv => whnf
  refine ⟨Nat × Int, fun xq => ⟨[(0, L 2 (l.map encS)), (1, .fn 35 []), (6, I xq.2), (10, L 2 (l.map encS)), (11, I (l.map encS).length), (12, I xq.1)], [], 0⟩, fun xq => xq.1 ≤ l.length ∧ (-1099511627776 ≤ xq.2 ∧ xq.2 ≤ 1099511627776) ∧ runO xq.2 ((l.map fun x : Share => x.a).drop xq.1) = runO 0 (l.map fun x : Share => x.a), fun xq => l.length - xq.1, ⟨(0, 0), ?_, [], ⟨⟨rfl, rfl⟩, ⟨⟨rfl, rfl⟩, ⟨⟨rfl, rfl⟩, ⟨⟨rfl, rfl⟩, ⟨⟨rfl, rfl⟩, ⟨⟨rfl, rfl⟩, trivial⟩⟩⟩⟩⟩⟩, trivial, rfl, rfl, rfl⟩, ?_⟩
  · (try dsimp only); exact ⟨Nat.zero_le _, by omega, rfl⟩
  rintro ⟨k, s⟩ hk
  obtain ⟨hk, ⟨s1, s2⟩, hg⟩ : k ≤ l.length ∧ (-1099511627776 ≤ s ∧ s ≤ 1099511627776) ∧ runO s ((l.map fun x : Share => x.a).drop k) = runO 0 (l.map fun x : Share => x.a) := hk
  (try dsimp only)
  by_cases hkl : k < l.length
  · obtain ⟨x, hx⟩ := getElem_some hkl
    have hxv : (l.map fun x : Share => x.a)[k]? = some x.a := by rw [List.getElem?_map, hx]; rfl
    rw [runO_step hxv] at hg
    cases hp : plusF s x.a with
    | none =>
      rw [hp] at hg
      repeat' ((conv => whnf); first | (refine ⟨fun h => ?_, fun h => ?_⟩ <;> try (exfalso; first | omega | exact absurd h (by decide) | exact h rfl)) | (refine ⟨by omega, fun r hrr => ?_⟩; obtain rfl := get_row hrr hx) | (refine ⟨ca, _, amt_h, x, trivial, leVs_of_eq rfl, .inr rfl, rfl, ?_⟩; show norm (I x.a) _) | (refine ⟨_, plus_h, (s, x.a), ⟨s1, s2⟩, leVs_of_eq rfl, .inl rfl, rfl, ?_⟩; show norm (optT (plusF s x.a)) _; rw [hp]) | fail | fail)
      all_goals (refine ⟨[], rfl, trivial, ?_⟩; show leR _ (optT (runO 0 (l.map fun x : Share => x.a))); rw [← hg]; exact ⟨rfl, rfl, trivial⟩)
    | some t =>
      rw [hp] at hg
      have hb := plusF_bnd hp
      repeat' ((conv => whnf); first | (refine ⟨(k + 1, _), ⟨?_, by (try dsimp only); omega⟩, [], ⟨⟨rfl, rfl⟩, ⟨⟨rfl, rfl⟩, ⟨⟨rfl, rfl⟩, ⟨⟨rfl, rfl⟩, ⟨⟨rfl, rfl⟩, ⟨⟨rfl, rfl⟩, trivial⟩⟩⟩⟩⟩⟩, trivial, rfl, rfl, rfl⟩; (try dsimp only); exact ⟨by omega, hb, hg⟩) | (refine ⟨fun h => ?_, fun h => ?_⟩ <;> try (exfalso; first | omega | exact absurd h (by decide) | exact h rfl)) | (refine ⟨by omega, fun r hrr => ?_⟩; obtain rfl := get_row hrr hx) | (refine ⟨ca, _, amt_h, x, trivial, leVs_of_eq rfl, .inr rfl, rfl, ?_⟩; show norm (I x.a) _) | (refine ⟨_, plus_h, (s, x.a), ⟨s1, s2⟩, leVs_of_eq rfl, .inl rfl, rfl, ?_⟩; show norm (optT (plusF s x.a)) _; rw [hp]) | refine ⟨⟨by omega, by omega⟩, ?_⟩ | fail)
  · rw [runO_end (by rw [List.length_map]; exact hkl)] at hg
    repeat' ((conv => whnf); first | (refine ⟨fun h => ?_, fun h => ?_⟩ <;> try (exfalso; first | omega | exact absurd h (by decide) | exact h rfl)) | fail | fail)
    all_goals (refine ⟨[], rfl, trivial, ?_⟩; show leR _ (optT (runO 0 (l.map fun x : Share => x.a))); rw [← hg]; exact ⟨rfl, rfl, trivial⟩)
theorem runS_h : Holds Try.prog 34 runSS := holds_of mix Try.func34 runSLow (fun _ => rfl) runSV

end Go.Proofs.Ytepacknnggnifaa
