/- The clock: valid, Cover, Merge. -/
import Derived.Test.YtmehmnlhnbeeeaaF3
import Derived.Test.YtmehmnlhnbeeeaaP3
import Derived.Test.YtmehmnlhnbeeeaaE5
import Derived.Test.YtmehmnlhnbeeeaaShelf
namespace Go.Proofs.Ytmehmnlhnbeeeaa
open Go.RowKit
abbrev encV (r : Ivl) : List CV := [.int .i64 r.frm, .int .i64 r.to]
abbrev aV (r : Ivl) : SV := .agg ((encV r).map .c)
theorem ivl_ext {x y : Ivl} (h : x.frm = y.frm ∧ x.to = y.to ∧ True) : x = y := by
  obtain ⟨a0, a1, _⟩ := h
  cases x; cases y; simp_all
theorem ivl_nn {x y : Ivl} (h : ¬ ¬ (x.frm = y.frm ∧ x.to = y.to ∧ True)) : x = y := ivl_ext (Decidable.not_not.1 h)
theorem ivl_ne {x y : Ivl} (h : ¬ (x.frm = y.frm ∧ x.to = y.to ∧ True)) : x ≠ y := fun e => h (by subst e; exact ⟨rfl, rfl, trivial⟩)

/-! cmp.isNaN[int] -/
def isNaNIr : IFn := ⟨6, [.tmp 2],
  (.seq (.ops [
    ⟨(some 2), .mov, [.const (.bool false)], none⟩] false)
  (.seq (.ops [
    ⟨(some 3), .mov, [.tmp 0], none⟩,
    ⟨(some 4), .mov, [.tmp 0], none⟩,
    ⟨(some 5), .cmp .neq, [.tmp 3, .tmp 4], none⟩,
    ⟨(some 2), .mov, [.tmp 5], none⟩] false)
  .ret))⟩
theorem isNaNLow : lowF Try.prog {} Try.f50 = some isNaNIr := by kernel_rfl
def isNaNS : Spec := spec Int (fun n => [I n]) (fun _ => True) (fun _ => B false)
theorem isNaNV : fnV Try.prog isNaNIr isNaNS := by
  intro (x : Int) hx
  repeat' ((conv => whnf); first | (refine ⟨fun h => ?_, fun h => ?_⟩ <;> try (exfalso; omega)) | refine ⟨[], rfl, trivial, congrArg CV.bool ?_⟩ | refine ⟨[], rfl, trivial, congrArg (CV.int .i64) ?_⟩ | refine ⟨⟨by omega, by omega⟩, ?_⟩ | refine ⟨by omega, ?_⟩ | fail)
  rfl
theorem isNaN_h : Holds Try.prog 50 isNaNS := holds_of mix Try.func50 isNaNLow (fun _ => rfl) isNaNV

/-! cmp.Compare[int] -/
def compareIr : IFn := ⟨20, [.tmp 4],
  (.seq (.ops [
    ⟨(some 4), .mov, [.const (.int .i64 0)], none⟩] false)
  (.seq (.ops [
    ⟨(some 7), .mov, [.tmp 0], none⟩,
    ⟨(some 8), .call 50, [.tmp 7], none⟩,
    ⟨(some 5), .mov, [.tmp 8], none⟩] false)
  (.seq (.ops [
    ⟨(some 9), .mov, [.tmp 1], none⟩,
    ⟨(some 10), .call 50, [.tmp 9], none⟩,
    ⟨(some 6), .mov, [.tmp 10], none⟩] false)
  (.seq (.seq (.ops [
    ⟨(some 11), .mov, [.tmp 5], none⟩] false)
  (.cond (.tmp 11)
    (.seq (.seq (.ops [
      ⟨(some 12), .mov, [.tmp 6], none⟩] false)
    (.cond (.tmp 12)
      (.seq (.ops [
        ⟨(some 4), .mov, [.const (.int .i64 0)], none⟩] false)
      .ret)
      .skip))
    (.seq (.ops [
      ⟨(some 4), .mov, [.const (.int .i64 (-1))], none⟩] false)
    .ret))
    .skip))
  (.seq (.seq (.ops [
    ⟨(some 13), .mov, [.tmp 6], none⟩] false)
  (.cond (.tmp 13)
    (.seq (.ops [
      ⟨(some 4), .mov, [.const (.int .i64 1)], none⟩] false)
    .ret)
    .skip))
  (.seq (.seq (.ops [
    ⟨(some 14), .mov, [.tmp 0], none⟩,
    ⟨(some 15), .mov, [.tmp 1], none⟩,
    ⟨(some 16), .cmp .lss, [.tmp 14, .tmp 15], none⟩] false)
  (.cond (.tmp 16)
    (.seq (.ops [
      ⟨(some 4), .mov, [.const (.int .i64 (-1))], none⟩] false)
    .ret)
    .skip))
  (.seq (.seq (.ops [
    ⟨(some 17), .mov, [.tmp 0], none⟩,
    ⟨(some 18), .mov, [.tmp 1], none⟩,
    ⟨(some 19), .cmp .gtr, [.tmp 17, .tmp 18], none⟩] false)
  (.cond (.tmp 19)
    (.seq (.ops [
      ⟨(some 4), .mov, [.const (.int .i64 1)], none⟩] false)
    .ret)
    .skip))
  (.seq (.ops [
    ⟨(some 4), .mov, [.const (.int .i64 0)], none⟩] false)
  .ret))))))))⟩
theorem compareLow : lowF Try.prog {} Try.f46 = some compareIr := by kernel_rfl
def compareS : Spec := spec (Int × Int) (fun p => [I p.1, I p.2]) (fun _ => True) (fun p => I (cmpI p.1 p.2))
theorem compareV : fnV Try.prog compareIr compareS := by
  intro ⟨x, y⟩ hx
  repeat' ((conv => whnf); first | (refine ⟨fun h => ?_, fun h => ?_⟩ <;> try (exfalso; omega)) | refine ⟨_, isNaN_h, _, trivial, leVs_of_eq rfl, .inr rfl, rfl, ?_⟩ | refine ⟨[], rfl, trivial, congrArg CV.bool ?_⟩ | refine ⟨[], rfl, trivial, congrArg (CV.int .i64) ?_⟩ | refine ⟨⟨by omega, by omega⟩, ?_⟩ | refine ⟨by omega, ?_⟩ | fail)
  all_goals (unfold cmpI; (repeat split) <;> first | rfl | omega | contradiction)
theorem compare_h : Holds Try.prog 46 compareS := holds_of mix Try.func46 compareLow (fun _ => rfl) compareV

/-! skiarea/clock.valid -/
def validIr : IFn := ⟨18, [.tmp 2],
  (.seq (.ops [
    ⟨(some 1), .box, [.tmp 0], none⟩,
    ⟨(some 2), .mov, [.const (.bool false)], none⟩] false)
  (.seq (.ops [
    ⟨(some 3), .faddr 0, [.tmp 1], none⟩,
    ⟨(some 4), .load 1 false, [.tmp 3], none⟩,
    ⟨(some 5), .cmp .leq, [.const (.int .i64 0), .tmp 4], none⟩,
    ⟨(some 6), .mov, [.tmp 5], none⟩,
    ⟨(some 7), .faddr 0, [.tmp 1], (some (6, true))⟩,
    ⟨(some 8), .load 1 false, [.tmp 7], (some (6, true))⟩,
    ⟨(some 9), .faddr 1, [.tmp 1], (some (6, true))⟩,
    ⟨(some 10), .load 1 false, [.tmp 9], (some (6, true))⟩,
    ⟨(some 11), .cmp .leq, [.tmp 8, .tmp 10], (some (6, true))⟩,
    ⟨(some 12), .pick, [.tmp 6, .tmp 11, .const (.bool false)], none⟩,
    ⟨(some 13), .mov, [.tmp 12], none⟩,
    ⟨(some 14), .faddr 1, [.tmp 1], (some (13, true))⟩,
    ⟨(some 15), .load 1 false, [.tmp 14], (some (13, true))⟩,
    ⟨(some 16), .cmp .leq, [.tmp 15, .const (.int .i64 20000000)], (some (13, true))⟩,
    ⟨(some 17), .pick, [.tmp 13, .tmp 16, .const (.bool false)], none⟩,
    ⟨(some 2), .mov, [.tmp 17], none⟩] false)
  .ret))⟩
theorem validLow : lowF Try.prog {} Try.f43 = some validIr := by kernel_rfl
def validS : Spec := spec Ivl (fun v => [aV v]) (fun _ => True) (fun v => B (decide (validI v)))
theorem validV : fnV Try.prog validIr validS := by
  intro (x : Ivl) hx
  repeat' ((conv => whnf); first | (refine ⟨fun h => ?_, fun h => ?_⟩ <;> try (exfalso; omega)) | refine ⟨[], rfl, trivial, congrArg CV.bool ?_⟩ | refine ⟨[], rfl, trivial, congrArg (CV.int .i64) ?_⟩ | refine ⟨⟨by omega, by omega⟩, ?_⟩ | refine ⟨by omega, ?_⟩ | fail)
  all_goals (first | rfl | refine (decide_eq_true ?_).symm | refine (decide_eq_false ?_).symm)
  all_goals (unfold validI; omega)
theorem valid_h : Holds Try.prog 43 validS := holds_of mix Try.func43 validLow (fun _ => rfl) validV

/-! skiarea/skiarearef02.valid -/
def rvalidIr : IFn := ⟨18, [.tmp 2],
  (.seq (.ops [
    ⟨(some 1), .box, [.tmp 0], none⟩,
    ⟨(some 2), .mov, [.const (.bool false)], none⟩] false)
  (.seq (.ops [
    ⟨(some 3), .faddr 0, [.tmp 1], none⟩,
    ⟨(some 4), .load 1 false, [.tmp 3], none⟩,
    ⟨(some 5), .cmp .geq, [.tmp 4, .const (.int .i64 0)], none⟩,
    ⟨(some 6), .mov, [.tmp 5], none⟩,
    ⟨(some 7), .faddr 0, [.tmp 1], (some (6, true))⟩,
    ⟨(some 8), .load 1 false, [.tmp 7], (some (6, true))⟩,
    ⟨(some 9), .faddr 1, [.tmp 1], (some (6, true))⟩,
    ⟨(some 10), .load 1 false, [.tmp 9], (some (6, true))⟩,
    ⟨(some 11), .cmp .leq, [.tmp 8, .tmp 10], (some (6, true))⟩,
    ⟨(some 12), .pick, [.tmp 6, .tmp 11, .const (.bool false)], none⟩,
    ⟨(some 13), .mov, [.tmp 12], none⟩,
    ⟨(some 14), .faddr 1, [.tmp 1], (some (13, true))⟩,
    ⟨(some 15), .load 1 false, [.tmp 14], (some (13, true))⟩,
    ⟨(some 16), .cmp .leq, [.tmp 15, .const (.int .i64 20000000)], (some (13, true))⟩,
    ⟨(some 17), .pick, [.tmp 13, .tmp 16, .const (.bool false)], none⟩,
    ⟨(some 2), .mov, [.tmp 17], none⟩] false)
  .ret))⟩
theorem rvalidLow : lowF Try.prog {} Try.f47 = some rvalidIr := by kernel_rfl
def rvalidS : Spec := spec Ivl (fun v => [aV v]) (fun _ => True) (fun v => B (decide (validI v)))
theorem rvalidV : fnV Try.prog rvalidIr rvalidS := by
  intro (x : Ivl) hx
  repeat' ((conv => whnf); first | (refine ⟨fun h => ?_, fun h => ?_⟩ <;> try (exfalso; omega)) | refine ⟨[], rfl, trivial, congrArg CV.bool ?_⟩ | refine ⟨[], rfl, trivial, congrArg (CV.int .i64) ?_⟩ | refine ⟨⟨by omega, by omega⟩, ?_⟩ | refine ⟨by omega, ?_⟩ | fail)
  all_goals (first | rfl | refine (decide_eq_true ?_).symm | refine (decide_eq_false ?_).symm)
  all_goals (unfold validI; omega)
theorem rvalid_h : Holds Try.prog 47 rvalidS := holds_of mix Try.func47 rvalidLow (fun _ => rfl) rvalidV

/-! skiarea/clock.Cover -/
def coverIr : IFn := ⟨28, [.tmp 4],
  (.seq (.ops [
    ⟨(some 4), .mov, [.const (.bool false)], none⟩] false)
  (.seq (.seq (.ops [
    ⟨(some 7), .mov, [.tmp 0], none⟩,
    ⟨(some 8), .len, [.tmp 7], none⟩,
    ⟨(some 9), .mov, [.const (.int .i64 0)], none⟩] false)
  (.block 0
    (.loop
      (.seq (.ops [
        ⟨(some 10), .cmp .lss, [.tmp 9, .tmp 8], none⟩] false)
      (.seq (.cond (.tmp 10)
        .skip
        (.exit 0))
      (.seq (.block 1
        (.seq (.ops [
          ⟨(some 11), .idx 2, [.tmp 7, .tmp 9], none⟩,
          ⟨(some 12), .load 2 true, [.tmp 11], none⟩,
          ⟨(some 6), .alloc [.int .i64 0, .int .i64 0], [], none⟩,
          ⟨none, .store 2, [.tmp 6, .tmp 12], none⟩] false)
        (.seq (.ops [
          ⟨(some 13), .load 2 true, [.tmp 6], none⟩,
          ⟨(some 14), .call 43, [.tmp 13], none⟩,
          ⟨(some 15), .mov, [.tmp 14], none⟩,
          ⟨(some 16), .faddr 0, [.tmp 6], (some (15, true))⟩,
          ⟨(some 17), .load 1 false, [.tmp 16], (some (15, true))⟩,
          ⟨(some 18), .mov, [.tmp 1], (some (15, true))⟩,
          ⟨(some 19), .cmp .leq, [.tmp 17, .tmp 18], (some (15, true))⟩,
          ⟨(some 20), .pick, [.tmp 15, .tmp 19, .const (.bool false)], none⟩,
          ⟨(some 21), .mov, [.tmp 20], none⟩,
          ⟨(some 22), .mov, [.tmp 1], (some (21, true))⟩,
          ⟨(some 23), .faddr 1, [.tmp 6], (some (21, true))⟩,
          ⟨(some 24), .load 1 false, [.tmp 23], (some (21, true))⟩,
          ⟨(some 25), .cmp .lss, [.tmp 22, .tmp 24], (some (21, true))⟩,
          ⟨(some 26), .pick, [.tmp 21, .tmp 25, .const (.bool false)], none⟩] false)
        (.cond (.tmp 26)
          (.seq (.ops [
            ⟨(some 4), .mov, [.const (.bool true)], none⟩] false)
          .ret)
          .skip))))
      (.ops [
        ⟨(some 27), .bin .add .i64 false, [.tmp 9, .const (.int .i64 1)], none⟩,
        ⟨(some 9), .mov, [.tmp 27], none⟩] false)))))))
  (.seq (.ops [
    ⟨(some 4), .mov, [.const (.bool false)], none⟩] false)
  .ret)))⟩
theorem coverLow : lowF Try.prog {} Try.f31 = some coverIr := by kernel_rfl
def coverS : Spec := spec (List Ivl × Int) (fun p => [L 2 (p.1.map encV), I p.2]) (fun p => p.1.length ≤ 9223372036854775807) (fun p => B (decide (cov p.1 p.2)))
theorem coverV : fnV Try.prog coverIr coverS := by
  intro ⟨(l : List Ivl), (t : Int)⟩ hx
  replace hx : l.length ≤ 9223372036854775807 := hx
  show vc _ _ _ ⟨argEnv 0 [L 2 (l.map encV), I t], [], 0⟩
  have hl : (l.map encV).length = l.length := List.length_map ..
  conv => whnf
  refine ⟨Nat, fun xq => ⟨[(1, I t), (7, L 2 (l.map encV)), (8, I (l.map encV).length), (9, I xq)], [], 0⟩, fun xq => xq ≤ l.length ∧ ∀ y ∈ l.take xq, ¬ at1 y t, fun xq => l.length - xq, ⟨0, ?_, [], ⟨⟨rfl, rfl⟩, ⟨⟨rfl, rfl⟩, ⟨⟨rfl, rfl⟩, ⟨⟨rfl, rfl⟩, trivial⟩⟩⟩⟩, trivial, rfl, rfl⟩, ?_⟩
  · (try dsimp only); exact ⟨Nat.zero_le _, by simp⟩
  rintro k hk
  obtain ⟨hk, hr⟩ : k ≤ l.length ∧ ∀ y ∈ l.take k, ¬ at1 y t := hk
  (try dsimp only)
  by_cases hkl : k < l.length
  · obtain ⟨x, hx⟩ := getElem_some hkl
    by_cases hv : validI x
    · repeat' ((conv => whnf); first | (refine ⟨k + 1, ⟨?_, by (try dsimp only); omega⟩, [], ⟨⟨rfl, rfl⟩, ⟨⟨rfl, rfl⟩, ⟨⟨rfl, rfl⟩, ⟨⟨rfl, rfl⟩, trivial⟩⟩⟩⟩, trivial, rfl, rfl⟩; (try dsimp only); exact ⟨by omega, all_step hx hr (fun hc => by have := hc.2; omega)⟩) | (refine ⟨fun h => ?_, fun h => ?_⟩ <;> try (exfalso; first | omega | exact absurd h (by decide) | exact h rfl)) | (refine ⟨by omega, fun r hrr => ?_⟩; obtain rfl := get_row hrr hx) | (refine ⟨_, valid_h, x, trivial, leVs_of_eq rfl, .inl rfl, rfl, ?_⟩; show norm (B (decide (validI x))) _; rw [decide_eq_true hv]) | refine ⟨⟨by omega, by omega⟩, ?_⟩ | refine ⟨[], rfl, trivial, congrArg CV.bool ?_⟩ | fail)
      all_goals exact (decide_eq_true (⟨x, List.mem_of_getElem? hx, hv, by omega, by omega⟩ : cov l t)).symm
    · repeat' ((conv => whnf); first | (refine ⟨k + 1, ⟨?_, by (try dsimp only); omega⟩, [], ⟨⟨rfl, rfl⟩, ⟨⟨rfl, rfl⟩, ⟨⟨rfl, rfl⟩, ⟨⟨rfl, rfl⟩, trivial⟩⟩⟩⟩, trivial, rfl, rfl⟩; (try dsimp only); exact ⟨by omega, all_step hx hr (fun hc => hv hc.1)⟩) | (refine ⟨fun h => ?_, fun h => ?_⟩ <;> try (exfalso; first | omega | exact absurd h (by decide) | exact h rfl)) | (refine ⟨by omega, fun r hrr => ?_⟩; obtain rfl := get_row hrr hx) | (refine ⟨_, valid_h, x, trivial, leVs_of_eq rfl, .inl rfl, rfl, ?_⟩; show norm (B (decide (validI x))) _; rw [decide_eq_false hv]) | refine ⟨⟨by omega, by omega⟩, ?_⟩ | refine ⟨[], rfl, trivial, congrArg CV.bool ?_⟩ | fail)
  · have ha := all_end hr hkl
    repeat' ((conv => whnf); first | (refine ⟨fun h => ?_, fun h => ?_⟩ <;> try (exfalso; first | omega | exact absurd h (by decide) | exact h rfl)) | refine ⟨[], rfl, trivial, congrArg CV.bool ?_⟩ | fail)
    all_goals exact (decide_eq_false (fun ⟨x, hx, hc⟩ => ha x hx hc : ¬ cov l t)).symm
theorem cover_h : Holds Try.prog 31 coverS := holds_of mix Try.func31 coverLow (fun _ => rfl) coverV

/-! skiarea/skiarearef02.Cover -/
def rcoverIr : IFn := ⟨35, [.tmp 4],
  (.seq (.ops [
    ⟨(some 4), .mov, [.const (.bool false)], none⟩] false)
  (.seq (.seq (.ops [
    ⟨(some 5), .mov, [.const (.int .i64 0)], none⟩] false)
  (.block 0
    (.loop
      (.seq (.seq (.ops [
        ⟨(some 6), .mov, [.tmp 5], none⟩,
        ⟨(some 7), .mov, [.tmp 0], none⟩,
        ⟨(some 8), .len, [.tmp 7], none⟩,
        ⟨(some 9), .cmp .lss, [.tmp 6, .tmp 8], none⟩] false)
      (.cond (.tmp 9)
        .skip
        (.exit 0)))
      (.seq (.block 1
        (.seq (.ops [
          ⟨(some 12), .mov, [.tmp 0], none⟩,
          ⟨(some 13), .mov, [.tmp 5], none⟩,
          ⟨(some 14), .idx 2, [.tmp 12, .tmp 13], none⟩,
          ⟨(some 15), .load 2 true, [.tmp 14], none⟩,
          ⟨(some 16), .call 47, [.tmp 15], none⟩,
          ⟨(some 17), .mov, [.tmp 16], none⟩,
          ⟨(some 18), .mov, [.tmp 0], (some (17, true))⟩,
          ⟨(some 19), .mov, [.tmp 5], (some (17, true))⟩,
          ⟨(some 20), .idx 2, [.tmp 18, .tmp 19], (some (17, true))⟩,
          ⟨(some 21), .faddr 0, [.tmp 20], (some (17, true))⟩,
          ⟨(some 22), .load 1 false, [.tmp 21], (some (17, true))⟩,
          ⟨(some 23), .mov, [.tmp 1], (some (17, true))⟩,
          ⟨(some 24), .cmp .leq, [.tmp 22, .tmp 23], (some (17, true))⟩,
          ⟨(some 25), .pick, [.tmp 17, .tmp 24, .const (.bool false)], none⟩,
          ⟨(some 26), .mov, [.tmp 25], none⟩,
          ⟨(some 27), .mov, [.tmp 1], (some (26, true))⟩,
          ⟨(some 28), .mov, [.tmp 0], (some (26, true))⟩,
          ⟨(some 29), .mov, [.tmp 5], (some (26, true))⟩,
          ⟨(some 30), .idx 2, [.tmp 28, .tmp 29], (some (26, true))⟩,
          ⟨(some 31), .faddr 1, [.tmp 30], (some (26, true))⟩,
          ⟨(some 32), .load 1 false, [.tmp 31], (some (26, true))⟩,
          ⟨(some 33), .cmp .lss, [.tmp 27, .tmp 32], (some (26, true))⟩,
          ⟨(some 34), .pick, [.tmp 26, .tmp 33, .const (.bool false)], none⟩] false)
        (.cond (.tmp 34)
          (.seq (.ops [
            ⟨(some 4), .mov, [.const (.bool true)], none⟩] false)
          .ret)
          .skip)))
      (.ops [
        ⟨(some 10), .mov, [.tmp 5], none⟩,
        ⟨(some 11), .bin .add .i64 false, [.tmp 10, .const (.int .i64 1)], none⟩,
        ⟨(some 5), .mov, [.tmp 11], none⟩] false))))))
  (.seq (.ops [
    ⟨(some 4), .mov, [.const (.bool false)], none⟩] false)
  .ret)))⟩
theorem rcoverLow : lowF Try.prog {} Try.f32 = some rcoverIr := by kernel_rfl
def rcoverS : Spec := spec (List Ivl × Int) (fun p => [L 2 (p.1.map encV), I p.2]) (fun p => p.1.length ≤ 9223372036854775807) (fun p => B (decide (cov p.1 p.2)))
theorem rcoverV : fnV Try.prog rcoverIr rcoverS := by
  intro ⟨(l : List Ivl), (t : Int)⟩ hx
  replace hx : l.length ≤ 9223372036854775807 := hx
  show vc _ _ _ ⟨argEnv 0 [L 2 (l.map encV), I t], [], 0⟩
  have hl : (l.map encV).length = l.length := List.length_map ..
  conv => whnf
  refine ⟨Nat, fun xq => ⟨[(0, L 2 (l.map encV)), (1, I t), (5, I xq)], [], 0⟩, fun xq => xq ≤ l.length ∧ ∀ y ∈ l.take xq, ¬ at1 y t, fun xq => l.length - xq, ⟨0, ?_, [], ⟨⟨rfl, rfl⟩, ⟨⟨rfl, rfl⟩, ⟨⟨rfl, rfl⟩, trivial⟩⟩⟩, trivial, rfl, rfl⟩, ?_⟩
  · (try dsimp only); exact ⟨Nat.zero_le _, by simp⟩
  rintro k hk
  obtain ⟨hk, hr⟩ : k ≤ l.length ∧ ∀ y ∈ l.take k, ¬ at1 y t := hk
  (try dsimp only)
  by_cases hkl : k < l.length
  · obtain ⟨x, hx⟩ := getElem_some hkl
    by_cases hv : validI x
    · repeat' ((conv => whnf); first | (refine ⟨k + 1, ⟨?_, by (try dsimp only); omega⟩, [], ⟨⟨rfl, rfl⟩, ⟨⟨rfl, rfl⟩, ⟨⟨rfl, rfl⟩, trivial⟩⟩⟩, trivial, rfl, rfl⟩; (try dsimp only); exact ⟨by omega, all_step hx hr (fun hc => by have := hc.2; omega)⟩) | (refine ⟨fun h => ?_, fun h => ?_⟩ <;> try (exfalso; first | omega | exact absurd h (by decide) | exact h rfl)) | (refine ⟨by omega, fun r hrr => ?_⟩; obtain rfl := get_row hrr hx) | (refine ⟨_, rvalid_h, x, trivial, leVs_of_eq rfl, .inl rfl, rfl, ?_⟩; show norm (B (decide (validI x))) _; rw [decide_eq_true hv]) | refine ⟨⟨by omega, by omega⟩, ?_⟩ | refine ⟨[], rfl, trivial, congrArg CV.bool ?_⟩ | fail)
      all_goals exact (decide_eq_true (⟨x, List.mem_of_getElem? hx, hv, by omega, by omega⟩ : cov l t)).symm
    · repeat' ((conv => whnf); first | (refine ⟨k + 1, ⟨?_, by (try dsimp only); omega⟩, [], ⟨⟨rfl, rfl⟩, ⟨⟨rfl, rfl⟩, ⟨⟨rfl, rfl⟩, trivial⟩⟩⟩, trivial, rfl, rfl⟩; (try dsimp only); exact ⟨by omega, all_step hx hr (fun hc => hv hc.1)⟩) | (refine ⟨fun h => ?_, fun h => ?_⟩ <;> try (exfalso; first | omega | exact absurd h (by decide) | exact h rfl)) | (refine ⟨by omega, fun r hrr => ?_⟩; obtain rfl := get_row hrr hx) | (refine ⟨_, rvalid_h, x, trivial, leVs_of_eq rfl, .inl rfl, rfl, ?_⟩; show norm (B (decide (validI x))) _; rw [decide_eq_false hv]) | refine ⟨⟨by omega, by omega⟩, ?_⟩ | refine ⟨[], rfl, trivial, congrArg CV.bool ?_⟩ | fail)
  · have ha := all_end hr hkl
    repeat' ((conv => whnf); first | (refine ⟨fun h => ?_, fun h => ?_⟩ <;> try (exfalso; first | omega | exact absurd h (by decide) | exact h rfl)) | refine ⟨[], rfl, trivial, congrArg CV.bool ?_⟩ | fail)
    all_goals exact (decide_eq_false (fun ⟨x, hx, hc⟩ => ha x hx hc : ¬ cov l t)).symm
theorem rcover_h : Holds Try.prog 32 rcoverS := holds_of mix Try.func32 rcoverLow (fun _ => rfl) rcoverV

/-! skiarea/skiarearef02.Same -/
def sameIr : IFn := ⟨26, [.tmp 4],
  (.seq (.ops [
    ⟨(some 4), .mov, [.const (.bool false)], none⟩] false)
  (.seq (.seq (.ops [
    ⟨(some 6), .mov, [.tmp 0], none⟩,
    ⟨(some 7), .len, [.tmp 6], none⟩,
    ⟨(some 8), .mov, [.tmp 1], none⟩,
    ⟨(some 9), .len, [.tmp 8], none⟩,
    ⟨(some 10), .cmp .neq, [.tmp 7, .tmp 9], none⟩] false)
  (.cond (.tmp 10)
    (.seq (.ops [
      ⟨(some 4), .mov, [.const (.bool false)], none⟩] false)
    .ret)
    .skip))
  (.seq (.seq (.ops [
    ⟨(some 5), .mov, [.const (.int .i64 0)], none⟩] false)
  (.block 0
    (.loop
      (.seq (.seq (.ops [
        ⟨(some 11), .mov, [.tmp 5], none⟩,
        ⟨(some 12), .mov, [.tmp 0], none⟩,
        ⟨(some 13), .len, [.tmp 12], none⟩,
        ⟨(some 14), .cmp .lss, [.tmp 11, .tmp 13], none⟩] false)
      (.cond (.tmp 14)
        .skip
        (.exit 0)))
      (.seq (.block 1
        (.seq (.ops [
          ⟨(some 17), .mov, [.tmp 0], none⟩,
          ⟨(some 18), .mov, [.tmp 5], none⟩,
          ⟨(some 19), .idx 2, [.tmp 17, .tmp 18], none⟩,
          ⟨(some 20), .load 2 true, [.tmp 19], none⟩,
          ⟨(some 21), .mov, [.tmp 1], none⟩,
          ⟨(some 22), .mov, [.tmp 5], none⟩,
          ⟨(some 23), .idx 2, [.tmp 21, .tmp 22], none⟩,
          ⟨(some 24), .load 2 true, [.tmp 23], none⟩,
          ⟨(some 25), .eqa [false, false] true, [.tmp 20, .tmp 24], none⟩] true)
        (.cond (.tmp 25)
          (.seq (.ops [
            ⟨(some 4), .mov, [.const (.bool false)], none⟩] false)
          .ret)
          .skip)))
      (.ops [
        ⟨(some 15), .mov, [.tmp 5], none⟩,
        ⟨(some 16), .bin .add .i64 false, [.tmp 15, .const (.int .i64 1)], none⟩,
        ⟨(some 5), .mov, [.tmp 16], none⟩] false))))))
  (.seq (.ops [
    ⟨(some 4), .mov, [.const (.bool true)], none⟩] false)
  .ret))))⟩
theorem sameLow : lowF Try.prog {} Try.f25 = some sameIr := by kernel_rfl
def sameS : Spec := spec (List Ivl × List Ivl) (fun p => [L 2 (p.1.map encV), L 2 (p.2.map encV)]) (fun p => p.1.length ≤ 9223372036854775807) (fun p => B (decide (p.1 = p.2)))
theorem sameV : fnV Try.prog sameIr sameS := by
  intro ⟨(xs : List Ivl), (ys : List Ivl)⟩ hx
  replace hx : xs.length ≤ 9223372036854775807 := hx
  have hl : (xs.map encV).length = xs.length := List.length_map ..
  have hl2 : (ys.map encV).length = ys.length := List.length_map ..
  conv => whnf
  refine ⟨fun h => ?_, fun h => ?_⟩
  · conv => whnf
    refine ⟨[], rfl, trivial, congrArg CV.bool ?_⟩
    exact (decide_eq_false fun (e : xs = ys) => h (by subst e; rfl)).symm
  have he : xs.length = ys.length := by have h : ((xs.map encV).length : Int) = (ys.map encV).length := Decidable.not_not.1 h; omega
  conv => whnf
  refine ⟨Nat, fun xq => ⟨[(0, L 2 (xs.map encV)), (1, L 2 (ys.map encV)), (5, I xq)], [], 0⟩, fun xq => xq ≤ xs.length ∧ xs.take xq = ys.take xq, fun xq => xs.length - xq, ⟨0, ?_, [], ⟨⟨rfl, rfl⟩, ⟨⟨rfl, rfl⟩, ⟨⟨rfl, rfl⟩, trivial⟩⟩⟩, trivial, rfl, rfl⟩, ?_⟩
  · (try dsimp only); exact ⟨Nat.zero_le _, by simp⟩
  rintro k hk
  obtain ⟨hk, hr⟩ : k ≤ xs.length ∧ xs.take k = ys.take k := hk
  (try dsimp only)
  conv => whnf
  refine ⟨fun h => ?_, fun h => ?_⟩
  · replace h : (k : Int) < ((xs.map encV).length : Int) := h
    conv => whnf
    refine ⟨by omega, fun r hr' => ?_⟩
    obtain ⟨x, hx', rfl⟩ := map_get hr'
    rw [Int.toNat_natCast] at hx'
    conv => whnf
    refine ⟨by omega, fun r hr' => ?_⟩
    obtain ⟨y, hy', rfl⟩ := map_get hr'
    rw [Int.toNat_natCast] at hy'
    conv => whnf
    refine ⟨fun hc => ?_, fun hc => ?_⟩
    · conv => whnf
      refine ⟨[], rfl, trivial, congrArg CV.bool ?_⟩
      exact (decide_eq_false (ne_at hx' hy' (fun e => hc (by subst e; exact ⟨rfl, rfl, trivial⟩)))).symm
    · conv => whnf
      refine ⟨⟨by omega, by omega⟩, ?_⟩
      conv => whnf
      (refine ⟨k + 1, ⟨?_, by (try dsimp only); omega⟩, [], ⟨⟨rfl, rfl⟩, ⟨⟨rfl, rfl⟩, ⟨⟨rfl, rfl⟩, trivial⟩⟩⟩, trivial, rfl, rfl⟩; (try dsimp only); exact ⟨by omega, take_step hr hx' hy' (ivl_nn hc)⟩)
  · conv => whnf
    refine ⟨[], rfl, trivial, congrArg CV.bool ?_⟩
    exact (decide_eq_true (take_all hr (by omega) (by omega))).symm
theorem same_h : Holds Try.prog 25 sameS := holds_of mix Try.func25 sameLow (fun _ => rfl) sameV

/-! skiarea/clock.Merge$1 -/
def mcmpIr : IFn := ⟨10, [.tmp 4],
  (.seq (.ops [
    ⟨(some 2), .box, [.tmp 0], none⟩,
    ⟨(some 3), .box, [.tmp 1], none⟩,
    ⟨(some 4), .mov, [.const (.int .i64 0)], none⟩] false)
  (.seq (.ops [
    ⟨(some 5), .faddr 0, [.tmp 2], none⟩,
    ⟨(some 6), .load 1 false, [.tmp 5], none⟩,
    ⟨(some 7), .faddr 0, [.tmp 3], none⟩,
    ⟨(some 8), .load 1 false, [.tmp 7], none⟩,
    ⟨(some 9), .call 46, [.tmp 6, .tmp 8], none⟩,
    ⟨(some 4), .mov, [.tmp 9], none⟩] false)
  .ret))⟩
theorem mcmpLow : lowF Try.prog {} Try.f45 = some mcmpIr := by kernel_rfl
def mcmpS : Spec := spec (Ivl × Ivl) (fun p => [aV p.1, aV p.2]) (fun _ => True) (fun p => I (cmpI p.1.frm p.2.frm))
theorem mcmpV : fnV Try.prog mcmpIr mcmpS := by
  intro ⟨x, y⟩ hx
  show vc _ _ _ ⟨argEnv 0 [aV x, aV y], [], 0⟩
  repeat' ((conv => whnf); first | (refine ⟨_, compare_h, (x.frm, y.frm), trivial, leVs_of_eq rfl, .inl rfl, rfl, ?_⟩; show norm (I (cmpI x.frm y.frm)) _) | exact ⟨[], rfl, trivial, rfl⟩ | fail)
theorem mcmp_h : Holds Try.prog 45 mcmpS := holds_of mix Try.func45 mcmpLow (fun _ => rfl) mcmpV

def cmpW (a b : Ivl) : Int := cmpI a.frm b.frm
theorem swoV : Go.Sort.SWO (ltOf fun x y : {_x : Ivl // True} => cmpW x.1 y.1) := {
  irrefl := fun x => by simp only [ltOf, decide_eq_false_iff_not, cmpW, cmpI_lt]; omega
  trans := fun x y z h1 h2 => by simp only [ltOf, decide_eq_true_eq, cmpW, cmpI_lt] at *; omega
  ntrans := fun x y z h1 h2 => by simp only [ltOf, decide_eq_false_iff_not, cmpW, cmpI_lt] at *; omega }
theorem sortV_h : HoldsM Try.prog 44 (sortM 39 2 encV 45 [] (fun _ => True) cmpW) :=
  haveI : Inhabited {_x : Ivl // True} := ⟨⟨⟨0, 0⟩, trivial⟩⟩
  sort_holds (k := 2) (cR := encV) Try.sortR (fun _ => by kernel_rfl) (fun _ => by kernel_rfl) (fun x c hc => by simp [encV] at hc; rcases hc with rfl | rfl <;> rfl) (fun _ => rfl) cmpW swoV 45 [] (by kernel_rfl) (fun x F w vs _ hF hr => mcmp_h x F w vs trivial hF hr) 39
theorem good_yes {l : List Ivl} {k : Nat} {x : Ivl} (hx : l[k]? = some x) (h : full x) : (l.take (k + 1)).filter good = (l.take k).filter good ++ [x] := by
  rw [take_snoc _ _ _ hx, List.filter_append]; simp [good, h]
theorem good_no {l : List Ivl} {k : Nat} {x : Ivl} (hx : l[k]? = some x) (h : ¬ full x) : (l.take (k + 1)).filter good = (l.take k).filter good := by
  rw [take_snoc _ _ _ hx, List.filter_append]; simp [good, h]

/-! skiarea/clock.Merge -/
def mergeIr : IFn := ⟨73, [.tmp 2],
  (.seq (.ops [
    ⟨(some 2), .mov, [.const (.slice none 0 0)], none⟩] false)
  (.seq (.ops [
    ⟨(some 3), .nilOwn 39 2, [], none⟩,
    ⟨(some 4), .nilOwn 39 2, [], none⟩] false)
  (.seq (.seq (.ops [
    ⟨(some 10), .mov, [.tmp 0], none⟩,
    ⟨(some 11), .len, [.tmp 10], none⟩,
    ⟨(some 12), .mov, [.const (.int .i64 0)], none⟩] false)
  (.block 0
    (.loop
      (.seq (.ops [
        ⟨(some 13), .cmp .lss, [.tmp 12, .tmp 11], none⟩] false)
      (.seq (.cond (.tmp 13)
        .skip
        (.exit 0))
      (.seq (.block 1
        (.seq (.ops [
          ⟨(some 14), .idx 2, [.tmp 10, .tmp 12], none⟩,
          ⟨(some 15), .load 2 true, [.tmp 14], none⟩,
          ⟨(some 6), .alloc [.int .i64 0, .int .i64 0], [], none⟩,
          ⟨none, .store 2, [.tmp 6, .tmp 15], none⟩] false)
        (.seq (.ops [
          ⟨(some 16), .load 2 true, [.tmp 6], none⟩,
          ⟨(some 17), .call 43, [.tmp 16], none⟩,
          ⟨(some 18), .mov, [.tmp 17], none⟩,
          ⟨(some 19), .faddr 0, [.tmp 6], (some (18, true))⟩,
          ⟨(some 20), .load 1 false, [.tmp 19], (some (18, true))⟩,
          ⟨(some 21), .faddr 1, [.tmp 6], (some (18, true))⟩,
          ⟨(some 22), .load 1 false, [.tmp 21], (some (18, true))⟩,
          ⟨(some 23), .cmp .lss, [.tmp 20, .tmp 22], (some (18, true))⟩,
          ⟨(some 24), .pick, [.tmp 18, .tmp 23, .const (.bool false)], none⟩] false)
        (.cond (.tmp 24)
          (.ops [
            ⟨(some 25), .mov, [.tmp 3], none⟩,
            ⟨(some 26), .load 2 true, [.tmp 6], none⟩,
            ⟨(some 27), .buildSl 39 2, [.tmp 26], none⟩,
            ⟨(some 28), .append 39 2 16, [.tmp 25, .tmp 27], none⟩,
            ⟨(some 3), .mov, [.tmp 28], none⟩] false)
          .skip))))
      (.ops [
        ⟨(some 29), .bin .add .i64 false, [.tmp 12, .const (.int .i64 1)], none⟩,
        ⟨(some 12), .mov, [.tmp 29], none⟩] false)))))))
  (.seq (.ops [
    ⟨(some 30), .mov, [.tmp 3], none⟩,
    ⟨(some 31), .callm 44, [.tmp 30, .func 45], none⟩] false)
  (.seq (.seq (.ops [
    ⟨(some 32), .mov, [.tmp 3], none⟩,
    ⟨(some 33), .len, [.tmp 32], none⟩,
    ⟨(some 34), .mov, [.const (.int .i64 0)], none⟩] false)
  (.block 2
    (.loop
      (.seq (.ops [
        ⟨(some 35), .cmp .lss, [.tmp 34, .tmp 33], none⟩] false)
      (.seq (.cond (.tmp 35)
        .skip
        (.exit 2))
      (.seq (.block 3
        (.seq (.ops [
          ⟨(some 36), .idx 2, [.tmp 32, .tmp 34], none⟩,
          ⟨(some 37), .load 2 true, [.tmp 36], none⟩,
          ⟨(some 8), .alloc [.int .i64 0, .int .i64 0], [], none⟩,
          ⟨none, .store 2, [.tmp 8, .tmp 37], none⟩] false)
        (.seq (.ops [
          ⟨(some 38), .mov, [.tmp 4], none⟩,
          ⟨(some 39), .len, [.tmp 38], none⟩,
          ⟨(some 9), .mov, [.tmp 39], none⟩] false)
        (.seq (.ops [
          ⟨(some 40), .mov, [.tmp 9], none⟩,
          ⟨(some 41), .cmp .gtr, [.tmp 40, .const (.int .i64 0)], none⟩,
          ⟨(some 42), .mov, [.tmp 41], none⟩,
          ⟨(some 43), .faddr 0, [.tmp 8], (some (42, true))⟩,
          ⟨(some 44), .load 1 false, [.tmp 43], (some (42, true))⟩,
          ⟨(some 45), .mov, [.tmp 4], (some (42, true))⟩,
          ⟨(some 46), .mov, [.tmp 9], (some (42, true))⟩,
          ⟨(some 47), .bin .sub .i64 false, [.tmp 46, .const (.int .i64 1)], (some (42, true))⟩,
          ⟨(some 48), .idx 2, [.tmp 45, .tmp 47], (some (42, true))⟩,
          ⟨(some 49), .faddr 1, [.tmp 48], (some (42, true))⟩,
          ⟨(some 50), .load 1 false, [.tmp 49], (some (42, true))⟩,
          ⟨(some 51), .cmp .leq, [.tmp 44, .tmp 50], (some (42, true))⟩,
          ⟨(some 52), .pick, [.tmp 42, .tmp 51, .const (.bool false)], none⟩] true)
        (.cond (.tmp 52)
          (.ops [
            ⟨(some 53), .mov, [.tmp 4], none⟩,
            ⟨(some 54), .mov, [.tmp 9], none⟩,
            ⟨(some 55), .bin .sub .i64 false, [.tmp 54, .const (.int .i64 1)], none⟩,
            ⟨(some 56), .mov, [.tmp 4], none⟩,
            ⟨(some 57), .mov, [.tmp 9], none⟩,
            ⟨(some 58), .bin .sub .i64 false, [.tmp 57, .const (.int .i64 1)], none⟩,
            ⟨(some 59), .idx 2, [.tmp 56, .tmp 58], none⟩,
            ⟨(some 60), .faddr 1, [.tmp 59], none⟩,
            ⟨(some 61), .load 1 false, [.tmp 60], none⟩,
            ⟨(some 62), .faddr 1, [.tmp 8], none⟩,
            ⟨(some 63), .load 1 false, [.tmp 62], none⟩,
            ⟨(some 64), .max, [.tmp 61, .tmp 63], none⟩,
            ⟨(some 65), .idx 2, [.tmp 53, .tmp 55], none⟩,
            ⟨(some 66), .faddr 1, [.tmp 65], none⟩,
            ⟨none, .store 1, [.tmp 66, .tmp 64], none⟩] true)
          (.ops [
            ⟨(some 67), .mov, [.tmp 4], none⟩,
            ⟨(some 68), .load 2 true, [.tmp 8], none⟩,
            ⟨(some 69), .buildSl 39 2, [.tmp 68], none⟩,
            ⟨(some 70), .append 39 2 16, [.tmp 67, .tmp 69], none⟩,
            ⟨(some 4), .mov, [.tmp 70], none⟩] false))))))
      (.ops [
        ⟨(some 71), .bin .add .i64 false, [.tmp 34, .const (.int .i64 1)], none⟩,
        ⟨(some 34), .mov, [.tmp 71], none⟩] false)))))))
  (.seq (.ops [
    ⟨(some 72), .mov, [.tmp 4], none⟩,
    ⟨(some 2), .mov, [.tmp 72], none⟩] false)
  .ret))))))⟩
theorem mergeLow : lowF Try.prog { owns := [(3, 39), (4, 39)], muts := [31] } Try.f29 = some mergeIr := by kernel_rfl
def mergeS : Spec := spec (List Ivl) (fun l => [L 2 (l.map encV)]) (fun l => l.length ≤ 1000000) (fun l => L 2 ((mergeF l).map encV))
theorem mergeV : fnV Try.prog mergeIr mergeS := by
  intro (l : List Ivl) hx
  replace hx : l.length ≤ 1000000 := hx
  show vc _ _ _ ⟨argEnv 0 [L 2 (l.map encV)], [], 0⟩
  have hl : (l.map encV).length = l.length := List.length_map ..
  conv => whnf
  refine ⟨Nat × (List (List CV)), fun xq => ⟨[(3, .osl 0), (4, .osl 1), (10, L 2 (l.map encV)), (11, I (l.map encV).length), (12, I xq.1)], [(0, .row 39 2 xq.2), (1, .row 39 2 [])], 2⟩, fun xq => xq.1 ≤ l.length ∧ xq.2 = ((l.take xq.1).filter good).map encV, fun xq => l.length - xq.1, ⟨(0, _), ?_, [], ⟨⟨rfl, rfl⟩, ⟨⟨rfl, rfl⟩, ⟨⟨rfl, rfl⟩, ⟨⟨rfl, rfl⟩, ⟨⟨rfl, rfl⟩, trivial⟩⟩⟩⟩⟩, ⟨⟨rfl, rfl, rfl⟩, ⟨⟨rfl, rfl, rfl⟩, trivial⟩⟩, rfl, rfl⟩, ?_⟩
  · (try dsimp only); exact ⟨Nat.zero_le _, rfl⟩
  rintro ⟨k, es⟩ hk
  obtain ⟨hk, rfl⟩ : k ≤ l.length ∧ es = ((l.take k).filter good).map encV := hk
  (try dsimp only)
  have hlo : (((l.take k).filter good).map encV).length = ((l.take k).filter good).length := List.length_map ..
  have hfl : ((l.take k).filter good).length ≤ l.length := Nat.le_trans (List.length_filter_le _ _) (by simp; omega)
  by_cases hkl : k < l.length
  · obtain ⟨x, hx⟩ := getElem_some hkl
    have hy := good_yes hx
    have hn := good_no hx
    generalize (l.take k).filter good = out at *
    by_cases hv : validI x
    · have hv' := hv
      unfold validI at hv'
      repeat' ((conv => whnf); first | (refine ⟨(k + 1, _), ⟨?_, by (try dsimp only); omega⟩, [(0, 3), (1, 1)], ⟨⟨rfl, rfl⟩, ⟨⟨rfl, rfl⟩, ⟨⟨rfl, rfl⟩, ⟨⟨rfl, rfl⟩, ⟨⟨rfl, rfl⟩, trivial⟩⟩⟩⟩⟩, ⟨⟨rfl, rfl, rfl⟩, ⟨⟨rfl, rfl, rfl⟩, trivial⟩⟩, rfl, rfl⟩; (try dsimp only); exact ⟨by omega, by rw [hy (by unfold full; omega), List.map_append]; rfl⟩) | (refine ⟨(k + 1, _), ⟨?_, by (try dsimp only); omega⟩, [(0, 0), (1, 1)], ⟨⟨rfl, rfl⟩, ⟨⟨rfl, rfl⟩, ⟨⟨rfl, rfl⟩, ⟨⟨rfl, rfl⟩, ⟨⟨rfl, rfl⟩, trivial⟩⟩⟩⟩⟩, ⟨⟨rfl, rfl, rfl⟩, ⟨⟨rfl, rfl, rfl⟩, trivial⟩⟩, rfl, rfl⟩; (try dsimp only); exact ⟨by omega, by rw [hn (by unfold full; omega)]⟩) | (refine ⟨fun h => ?_, fun h => ?_⟩ <;> try (exfalso; first | omega | exact absurd h (by decide) | exact h rfl)) | (refine ⟨by omega, fun r hrr => ?_⟩; obtain rfl := get_row hrr hx) | (refine ⟨_, valid_h, x, trivial, leVs_of_eq rfl, .inl rfl, rfl, ?_⟩; show norm (B (decide (validI x))) _; rw [decide_eq_true hv]) | (refine ⟨⟨by rw [hlo]; simp only [List.length_cons, List.length_nil]; omega, by rw [hlo]; simp only [List.length_cons, List.length_nil]; omega⟩, ?_⟩) | refine ⟨⟨by omega, by omega⟩, ?_⟩ | fail)
    · repeat' ((conv => whnf); first | (refine ⟨(k + 1, _), ⟨?_, by (try dsimp only); omega⟩, [(0, 0), (1, 1)], ⟨⟨rfl, rfl⟩, ⟨⟨rfl, rfl⟩, ⟨⟨rfl, rfl⟩, ⟨⟨rfl, rfl⟩, ⟨⟨rfl, rfl⟩, trivial⟩⟩⟩⟩⟩, ⟨⟨rfl, rfl, rfl⟩, ⟨⟨rfl, rfl, rfl⟩, trivial⟩⟩, rfl, rfl⟩; (try dsimp only); exact ⟨by omega, by rw [hn (fun hc => hv hc.valid)]⟩) | (refine ⟨fun h => ?_, fun h => ?_⟩ <;> try (exfalso; first | omega | exact absurd h (by decide) | exact h rfl)) | (refine ⟨by omega, fun r hrr => ?_⟩; obtain rfl := get_row hrr hx) | (refine ⟨_, valid_h, x, trivial, leVs_of_eq rfl, .inl rfl, rfl, ?_⟩; show norm (B (decide (validI x))) _; rw [decide_eq_false hv]) | (refine ⟨⟨by rw [hlo]; simp only [List.length_cons, List.length_nil]; omega, by rw [hlo]; simp only [List.length_cons, List.length_nil]; omega⟩, ?_⟩) | refine ⟨⟨by omega, by omega⟩, ?_⟩ | fail)
  · rw [take_end hkl] at *
    conv => whnf
    refine ⟨fun h => absurd h (by omega), fun h => ?_⟩
    conv => whnf
    refine ⟨_, sortV_h, l.filter good, ⟨fun _ _ => trivial, by omega⟩, ⟨rfl, rfl⟩, rfl, leVs_of_eq rfl, ?_⟩
    rintro _ ⟨s, rfl, hp, hpw⟩
    have hsi : s.Pairwise fun a b => a.frm ≤ b.frm := hpw.imp fun {a b} h => by have h2 : ¬ b.frm < a.frm := fun h' => h ((cmpI_lt _ _).2 h'); omega
    have hsf : ∀ v ∈ s, full v := fun v hv => of_decide_eq_true (List.mem_filter.1 (hp.mem_iff.1 hv)).2
    have hsl : (s.map encV).length = s.length := List.length_map ..
    have hpl := hp.length_eq
    conv => whnf
    refine ⟨Nat × (List (List CV)), fun xq => ⟨[(4, .osl 1), (32, .osl 0), (33, I (s.map encV).length), (34, I xq.1)], [(0, .row 39 2 (s.map encV)), (1, .row 39 2 xq.2)], 2⟩, fun xq => xq.1 ≤ s.length ∧ ∃ out, xq.2 = out.map encV ∧ MI s xq.1 out, fun xq => s.length - xq.1, ⟨(0, _), ?_, [], ⟨⟨rfl, rfl⟩, ⟨⟨rfl, rfl⟩, ⟨⟨rfl, rfl⟩, ⟨⟨rfl, rfl⟩, trivial⟩⟩⟩⟩, ⟨⟨rfl, rfl, rfl⟩, ⟨⟨rfl, rfl, rfl⟩, trivial⟩⟩, rfl, rfl⟩, ?_⟩
    · (try dsimp only); exact ⟨Nat.zero_le _, [], rfl, MI.start s⟩
    rintro ⟨k, es⟩ hk
    obtain ⟨hk, out, rfl, hM⟩ : k ≤ s.length ∧ ∃ out, es = out.map encV ∧ MI s k out := hk
    (try dsimp only)
    have hlo : (out.map encV).length = out.length := List.length_map ..
    have hml := hM.len
    by_cases hkl : k < s.length
    · obtain ⟨v, hv⟩ := getElem_some hkl
      have hf := hsf v (List.mem_of_getElem? hv)
      have hv' : s[((k : Nat) : Int).toNat]? = some v := by rw [Int.toNat_natCast]; exact hv
      by_cases h0 : 0 < out.length
      · obtain ⟨w, hw⟩ := getElem_some (show out.length - 1 < out.length by omega)
        have hti : (((out.map encV).length : Int) - 1).toNat = out.length - 1 := by omega
        have hw' : out[(((out.map encV).length : Int) - 1).toNat]? = some w := by rw [hti]; exact hw
        repeat' ((conv => whnf); first | (refine ⟨(k + 1, _), ⟨?_, by (try dsimp only); omega⟩, [(0, 0), (1, 1)], ⟨⟨rfl, rfl⟩, ⟨⟨rfl, rfl⟩, ⟨⟨rfl, rfl⟩, ⟨⟨rfl, rfl⟩, trivial⟩⟩⟩⟩, ⟨⟨rfl, rfl, rfl⟩, ⟨⟨rfl, rfl, rfl⟩, trivial⟩⟩, rfl, rfl⟩; (try dsimp only); exact ⟨by omega, out.set (out.length - 1) ⟨w.frm, max w.to v.to⟩, by rw [hti, List.map_set]; rfl, hM.join hv hf hw (by assumption)⟩) | (refine ⟨(k + 1, _), ⟨?_, by (try dsimp only); omega⟩, [(0, 0), (1, 3)], ⟨⟨rfl, rfl⟩, ⟨⟨rfl, rfl⟩, ⟨⟨rfl, rfl⟩, ⟨⟨rfl, rfl⟩, trivial⟩⟩⟩⟩, ⟨⟨rfl, rfl, rfl⟩, ⟨⟨rfl, rfl, rfl⟩, trivial⟩⟩, rfl, rfl⟩; (try dsimp only); exact ⟨by omega, out ++ [v], by rw [List.map_append]; rfl, hM.new hsi hv hf (last_lt hM.plain hw (by omega))⟩) | (refine ⟨fun h => ?_, fun h => ?_⟩ <;> try (exfalso; first | omega | exact absurd h (by decide) | exact h rfl)) | refine load_at hv' ?_ | refine load_at hw' ?_ | (refine ⟨⟨by rw [hlo]; simp only [List.length_cons, List.length_nil]; omega, by rw [hlo]; simp only [List.length_cons, List.length_nil]; omega⟩, ?_⟩) | refine ⟨⟨by omega, by omega⟩, ?_⟩ | fail)
      · have ho : out = [] := List.eq_nil_of_length_eq_zero (by omega)
        repeat' ((conv => whnf); first | (refine ⟨(k + 1, _), ⟨?_, by (try dsimp only); omega⟩, [(0, 0), (1, 3)], ⟨⟨rfl, rfl⟩, ⟨⟨rfl, rfl⟩, ⟨⟨rfl, rfl⟩, ⟨⟨rfl, rfl⟩, trivial⟩⟩⟩⟩, ⟨⟨rfl, rfl, rfl⟩, ⟨⟨rfl, rfl, rfl⟩, trivial⟩⟩, rfl, rfl⟩; (try dsimp only); exact ⟨by omega, out ++ [v], by rw [List.map_append]; rfl, hM.new hsi hv hf (by rw [ho]; simp)⟩) | (refine ⟨fun h => ?_, fun h => ?_⟩ <;> try (exfalso; first | omega | exact absurd h (by decide) | exact h rfl)) | refine load_at hv' ?_ | (refine ⟨⟨by rw [hlo]; simp only [List.length_cons, List.length_nil]; omega, by rw [hlo]; simp only [List.length_cons, List.length_nil]; omega⟩, ?_⟩) | refine ⟨⟨by omega, by omega⟩, ?_⟩ | fail)
    · rw [show k = s.length by omega] at hM
      obtain ⟨m1, m2⟩ := merge_of hp hM
      repeat' ((conv => whnf); first | (refine ⟨fun h => ?_, fun h => ?_⟩ <;> try (exfalso; first | omega | exact absurd h (by decide) | exact h rfl)) | fail)
      conv => whnf
      refine ⟨[], rfl, trivial, ?_⟩
      show leV (L 2 (out.map encV)) (L 2 ((mergeF l).map encV))
      rw [merge_uniq m1 m2]
      exact leV_refl _
theorem merge_h : Holds Try.prog 29 mergeS := holds_of mix Try.func29 mergeLow (fun _ => rfl) mergeV

end Go.Proofs.Ytmehmnlhnbeeeaa
