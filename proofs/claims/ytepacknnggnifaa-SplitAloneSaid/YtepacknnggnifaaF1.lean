/- Split: the order of the rests, and the parts of slices.SortStableFunc. -/
import Derived.Test.YtepacknnggnifaaP1
import Derived.Test.YtepacknnggnifaaChecked
namespace Go.Proofs.Ytepacknnggnifaa
open Go.RowKit
theorem mix : Try.prog.follows .mixedOrders = true := by kernel_rfl
abbrev e1 (n : Int) : List CV := [.int .i64 n]

/-! cmp.isNaN[int] -/
def isNaNIr : IFn := ⟨6, [.tmp 2],
  (.seq (.ops [
    ⟨(some 2), .mov, [.const (.bool false)], none⟩] false)
  (.seq (.ops [
    ⟨(some 3), .mov, [.tmp 0], none⟩,
    ⟨(some 4), .mov, [.tmp 0], none⟩,
    ⟨(some 5), .cmp .neq, [.tmp 3, .tmp 4], none⟩,
    ⟨(some 2), .mov, [.tmp 5], none⟩] false)
  .ret))⟩
theorem isNaNLow : lowF Try.prog {} Try.f41 = some isNaNIr := by kernel_rfl
def isNaNS : Spec := spec Int (fun n => [I n]) (fun _ => True) (fun _ => B false)
theorem isNaNV : fnV Try.prog isNaNIr isNaNS := by
  intro (x : Int) hx
  repeat' ((conv => whnf); first | (refine ⟨fun h => ?_, fun h => ?_⟩ <;> try (exfalso; omega)) | refine ⟨[], rfl, trivial, congrArg CV.bool ?_⟩ | refine ⟨[], rfl, trivial, congrArg (CV.int .i64) ?_⟩ | refine ⟨⟨by omega, by omega⟩, ?_⟩ | refine ⟨by omega, ?_⟩ | fail)
  rfl
theorem isNaN_h : Holds Try.prog 41 isNaNS := holds_of mix Try.func41 isNaNLow (fun _ => rfl) isNaNV

/-! cmp.Compare[int] -/
def compareIr : IFn := ⟨20, [.tmp 4],
  (.seq (.ops [
    ⟨(some 4), .mov, [.const (.int .i64 0)], none⟩] false)
  (.seq (.ops [
    ⟨(some 7), .mov, [.tmp 0], none⟩,
    ⟨(some 8), .call 41, [.tmp 7], none⟩,
    ⟨(some 5), .mov, [.tmp 8], none⟩] false)
  (.seq (.ops [
    ⟨(some 9), .mov, [.tmp 1], none⟩,
    ⟨(some 10), .call 41, [.tmp 9], none⟩,
    ⟨(some 6), .mov, [.tmp 10], none⟩] false)
  (.seq (.seq (.ops [
    ⟨(some 11), .mov, [.tmp 5], none⟩] false)
  (.cond (.tmp 11)
    (.seq (.seq (.ops [
      ⟨(some 12), .mov, [.tmp 6], none⟩] false)
    (.cond (.tmp 12)
      (.seq (.ops [
        ⟨(some 4), .mov, [.const (.int .i64 0)], none⟩] false)
      .ret)
      .skip))
    (.seq (.ops [
      ⟨(some 4), .mov, [.const (.int .i64 (-1))], none⟩] false)
    .ret))
    .skip))
  (.seq (.seq (.ops [
    ⟨(some 13), .mov, [.tmp 6], none⟩] false)
  (.cond (.tmp 13)
    (.seq (.ops [
      ⟨(some 4), .mov, [.const (.int .i64 1)], none⟩] false)
    .ret)
    .skip))
  (.seq (.seq (.ops [
    ⟨(some 14), .mov, [.tmp 0], none⟩,
    ⟨(some 15), .mov, [.tmp 1], none⟩,
    ⟨(some 16), .cmp .lss, [.tmp 14, .tmp 15], none⟩] false)
  (.cond (.tmp 16)
    (.seq (.ops [
      ⟨(some 4), .mov, [.const (.int .i64 (-1))], none⟩] false)
    .ret)
    .skip))
  (.seq (.seq (.ops [
    ⟨(some 17), .mov, [.tmp 0], none⟩,
    ⟨(some 18), .mov, [.tmp 1], none⟩,
    ⟨(some 19), .cmp .gtr, [.tmp 17, .tmp 18], none⟩] false)
  (.cond (.tmp 19)
    (.seq (.ops [
      ⟨(some 4), .mov, [.const (.int .i64 1)], none⟩] false)
    .ret)
    .skip))
  (.seq (.ops [
    ⟨(some 4), .mov, [.const (.int .i64 0)], none⟩] false)
  .ret))))))))⟩
theorem compareLow : lowF Try.prog {} Try.f28 = some compareIr := by kernel_rfl
def compareS : Spec := spec (Int × Int) (fun p => [I p.1, I p.2]) (fun _ => True) (fun p => I (cmpI p.1 p.2))
theorem compareV : fnV Try.prog compareIr compareS := by
  intro ⟨x, y⟩ hx
  repeat' ((conv => whnf); first | (refine ⟨fun h => ?_, fun h => ?_⟩ <;> try (exfalso; omega)) | refine ⟨_, isNaN_h, _, trivial, leVs_of_eq rfl, .inr rfl, rfl, ?_⟩ | refine ⟨[], rfl, trivial, congrArg CV.bool ?_⟩ | refine ⟨[], rfl, trivial, congrArg (CV.int .i64) ?_⟩ | refine ⟨⟨by omega, by omega⟩, ?_⟩ | refine ⟨by omega, ?_⟩ | fail)
  all_goals (unfold cmpI; (repeat split) <;> first | rfl | omega | contradiction)
theorem compare_h : Holds Try.prog 28 compareS := holds_of mix Try.func28 compareLow (fun _ => rfl) compareV

/-- The rest of part i. -/
def keyR (rs : List Int) (i : Int) : Int := rs.getD i.toNat 0

/-! skiarea/split.Split$1 -/
def lessIr : IFn := ⟨15, [.tmp 5],
  (.seq (.ops [
    ⟨(some 5), .mov, [.const (.int .i64 0)], none⟩] false)
  (.seq (.ops [
    ⟨(some 6), .load 1 false, [.tmp 2], none⟩,
    ⟨(some 7), .mov, [.tmp 1], none⟩,
    ⟨(some 8), .idx 1, [.tmp 6, .tmp 7], none⟩,
    ⟨(some 9), .load 1 false, [.tmp 8], none⟩,
    ⟨(some 10), .load 1 false, [.tmp 2], none⟩,
    ⟨(some 11), .mov, [.tmp 0], none⟩,
    ⟨(some 12), .idx 1, [.tmp 10, .tmp 11], none⟩,
    ⟨(some 13), .load 1 false, [.tmp 12], none⟩,
    ⟨(some 14), .call 28, [.tmp 9, .tmp 13], none⟩,
    ⟨(some 5), .mov, [.tmp 14], none⟩] true)
  .ret))⟩
theorem lessLow : lowF Try.prog {} Try.f27 = some lessIr := by kernel_rfl
def lessS : Spec := spec (List Int × Int × Int) (fun p => [I p.2.1, I p.2.2, .rp [.sl 1 (p.1.map e1)]]) (fun p => ((0 ≤ p.2.1 ∧ p.2.1 < p.1.length) ∧ 0 ≤ p.2.2 ∧ p.2.2 < p.1.length) ∧ p.1.length ≤ 1000000) (fun p => I (cmpI (keyR p.1 p.2.2) (keyR p.1 p.2.1)))
theorem lessV : fnV Try.prog lessIr lessS := by
  intro ⟨(rs : List Int), (i : Int), (k : Int)⟩ hx
  obtain ⟨⟨⟨i1, i2⟩, k1, k2⟩, hl⟩ : ((0 ≤ i ∧ i < rs.length) ∧ 0 ≤ k ∧ k < rs.length) ∧ rs.length ≤ 1000000 := hx
  obtain ⟨i, rfl⟩ := Int.eq_ofNat_of_zero_le i1
  obtain ⟨k, rfl⟩ := Int.eq_ofNat_of_zero_le k1
  obtain ⟨x, hx⟩ := getElem_some (show i < rs.length by omega)
  obtain ⟨y, hy⟩ := getElem_some (show k < rs.length by omega)
  have e1' : keyR rs i = x := by simp [keyR, List.getD, hx]
  have e2' : keyR rs k = y := by simp [keyR, List.getD, hy]
  show vc _ _ _ _ ⟨argEnv 0 [I i, I k, .rp [.sl 1 (rs.map e1)]], [], 0⟩
  conv => whnf
  refine idx_at hy ?_
  conv => whnf
  refine idx_at hx ?_
  conv => whnf
  refine ⟨_, compare_h, (y, x), trivial, leVs_of_eq rfl, .inr rfl, rfl, ?_⟩
  show norm (I (cmpI y x)) _
  conv => whnf
  exact ⟨[], rfl, trivial, congrArg (CV.int .i64) (by show cmpI y x = cmpI (keyR rs k) (keyR rs i); rw [e1', e2'])⟩
theorem less_h : Holds Try.prog 27 lessS := holds_of mix Try.func27 lessLow (fun _ => rfl) lessV

end Go.Proofs.Ytepacknnggnifaa
