/- Rides: the small functions. -/
import Derived.Test.YtfghmpfiemmbgaaU
import Derived.Test.YtfghmpfiemmbgaaChecked
import Derived.Test.YtfghmpfiemmbgaaMerge
namespace Go.Proofs.Ytfghmpfiemmbgaa
open Go.RowKit

theorem mix : Try.prog.follows .mixedOrders = true := by kernel_rfl
abbrev encR (r : Ride) : List CV := [.int .i64 r.gate, .int .i64 r.seq, .int .i64 r.serial, .int .i64 r.counter, .int .i64 r.product, .int .i64 r.lift, .int .i64 r.at_]
abbrev aR (r : Ride) : SV := .agg ((encR r).map .c)
def isIDb (n : Int) : Bool := decide (1 ≤ n ∧ n ≤ 9999)
def okRb (r : Ride) : Bool := decide (okR r)
def beforeB (a b : Ride) : Bool := decide (before a b)
def cmpI (a b : Int) : Int := if a < b then -1 else if b < a then 1 else 0
/-- The first number that is not 0, or 0. -/
def orI : List Int → Int
  | [] => 0
  | x :: r => if x = 0 then orI r else x
theorem orI_step {xs : List Int} {k : Nat} {x : Int} (hx : xs[k]? = some x) : orI (xs.drop k) = if x = 0 then orI (xs.drop (k + 1)) else x := by
  obtain ⟨hk, rfl⟩ := List.getElem?_eq_some_iff.1 hx
  rw [List.drop_eq_getElem_cons hk, orI]
theorem cmpR_eq (a b : Ride) : orI [cmpI a.gate b.gate, cmpI a.seq b.seq] = cmpR a b := by
  unfold cmpR cmpI orI orI orI
  by_cases h1 : a.gate < b.gate
  · simp [h1]
  · by_cases h2 : b.gate < a.gate
    · simp [h1, h2]
    · by_cases h3 : a.seq < b.seq
      · simp [h1, h2, h3]
      · by_cases h4 : b.seq < a.seq <;> simp [h1, h2, h3, h4]

/-! skiarea/rides.isID -/
def isIDIr : IFn := ⟨9, [.tmp 2],
  (.seq (.ops [
    ⟨(some 2), .mov, [.const (.bool false)], none⟩] false)
  (.seq (.ops [
    ⟨(some 3), .mov, [.tmp 0], none⟩,
    ⟨(some 4), .cmp .geq, [.tmp 3, .const (.int .i64 1)], none⟩,
    ⟨(some 5), .mov, [.tmp 4], none⟩,
    ⟨(some 6), .mov, [.tmp 0], (some (5, true))⟩,
    ⟨(some 7), .cmp .leq, [.tmp 6, .const (.int .i64 9999)], (some (5, true))⟩,
    ⟨(some 8), .pick, [.tmp 5, .tmp 7, .const (.bool false)], none⟩,
    ⟨(some 2), .mov, [.tmp 8], none⟩] false)
  .ret))⟩
theorem isIDLow : lowF Try.prog {} Try.f38 = some isIDIr := by kernel_rfl
def isIDS : Spec := spec Int (fun n => [I n]) (fun _ => True) (fun n => B (isIDb n))
theorem isIDV : fnV Try.prog isIDIr isIDS := by
  intro (x : Int) hx
  repeat' ((conv => whnf); first | (refine ⟨fun h => ?_, fun h => ?_⟩ <;> try (exfalso; omega)) | refine ⟨[], rfl, trivial, congrArg CV.bool ?_⟩ | refine ⟨[], rfl, trivial, congrArg (CV.int .i64) ?_⟩ | refine ⟨⟨by omega, by omega⟩, ?_⟩ | refine ⟨by omega, ?_⟩ | fail)
  all_goals (first | rfl | refine (decide_eq_true ?_).symm | refine (decide_eq_false ?_).symm)
  all_goals (omega)
theorem isID_h : Holds Try.prog 38 isIDS := holds_of mix Try.func38 isIDLow (fun _ => rfl) isIDV

/-! skiarea/rides.inRange -/
def inRangeIr : IFn := ⟨51, [.tmp 2],
  (.seq (.ops [
    ⟨(some 1), .box, [.tmp 0], none⟩,
    ⟨(some 2), .mov, [.const (.bool false)], none⟩] false)
  (.seq (.seq (.ops [
    ⟨(some 3), .faddr 0, [.tmp 1], none⟩,
    ⟨(some 4), .load 1 false, [.tmp 3], none⟩,
    ⟨(some 5), .call 38, [.tmp 4], none⟩,
    ⟨(some 6), .not, [.tmp 5], none⟩,
    ⟨(some 7), .mov, [.tmp 6], none⟩,
    ⟨(some 8), .faddr 2, [.tmp 1], (some (7, false))⟩,
    ⟨(some 9), .load 1 false, [.tmp 8], (some (7, false))⟩,
    ⟨(some 10), .call 38, [.tmp 9], (some (7, false))⟩,
    ⟨(some 11), .not, [.tmp 10], (some (7, false))⟩,
    ⟨(some 12), .pick, [.tmp 7, .const (.bool true), .tmp 11], none⟩,
    ⟨(some 13), .mov, [.tmp 12], none⟩,
    ⟨(some 14), .faddr 4, [.tmp 1], (some (13, false))⟩,
    ⟨(some 15), .load 1 false, [.tmp 14], (some (13, false))⟩,
    ⟨(some 16), .call 38, [.tmp 15], (some (13, false))⟩,
    ⟨(some 17), .not, [.tmp 16], (some (13, false))⟩,
    ⟨(some 18), .pick, [.tmp 13, .const (.bool true), .tmp 17], none⟩,
    ⟨(some 19), .mov, [.tmp 18], none⟩,
    ⟨(some 20), .faddr 5, [.tmp 1], (some (19, false))⟩,
    ⟨(some 21), .load 1 false, [.tmp 20], (some (19, false))⟩,
    ⟨(some 22), .call 38, [.tmp 21], (some (19, false))⟩,
    ⟨(some 23), .not, [.tmp 22], (some (19, false))⟩,
    ⟨(some 24), .pick, [.tmp 19, .const (.bool true), .tmp 23], none⟩] false)
  (.cond (.tmp 24)
    (.seq (.ops [
      ⟨(some 2), .mov, [.const (.bool false)], none⟩] false)
    .ret)
    .skip))
  (.seq (.seq (.ops [
    ⟨(some 25), .faddr 1, [.tmp 1], none⟩,
    ⟨(some 26), .load 1 false, [.tmp 25], none⟩,
    ⟨(some 27), .cmp .lss, [.tmp 26, .const (.int .i64 1)], none⟩,
    ⟨(some 28), .mov, [.tmp 27], none⟩,
    ⟨(some 29), .faddr 1, [.tmp 1], (some (28, false))⟩,
    ⟨(some 30), .load 1 false, [.tmp 29], (some (28, false))⟩,
    ⟨(some 31), .cmp .gtr, [.tmp 30, .const (.int .i64 1000000)], (some (28, false))⟩,
    ⟨(some 32), .pick, [.tmp 28, .const (.bool true), .tmp 31], none⟩,
    ⟨(some 33), .mov, [.tmp 32], none⟩,
    ⟨(some 34), .faddr 3, [.tmp 1], (some (33, false))⟩,
    ⟨(some 35), .load 1 false, [.tmp 34], (some (33, false))⟩,
    ⟨(some 36), .cmp .lss, [.tmp 35, .const (.int .i64 1)], (some (33, false))⟩,
    ⟨(some 37), .pick, [.tmp 33, .const (.bool true), .tmp 36], none⟩,
    ⟨(some 38), .mov, [.tmp 37], none⟩,
    ⟨(some 39), .faddr 3, [.tmp 1], (some (38, false))⟩,
    ⟨(some 40), .load 1 false, [.tmp 39], (some (38, false))⟩,
    ⟨(some 41), .cmp .gtr, [.tmp 40, .const (.int .i64 1000000)], (some (38, false))⟩,
    ⟨(some 42), .pick, [.tmp 38, .const (.bool true), .tmp 41], none⟩] false)
  (.cond (.tmp 42)
    (.seq (.ops [
      ⟨(some 2), .mov, [.const (.bool false)], none⟩] false)
    .ret)
    .skip))
  (.seq (.ops [
    ⟨(some 43), .faddr 6, [.tmp 1], none⟩,
    ⟨(some 44), .load 1 false, [.tmp 43], none⟩,
    ⟨(some 45), .cmp .geq, [.tmp 44, .const (.int .i64 0)], none⟩,
    ⟨(some 46), .mov, [.tmp 45], none⟩,
    ⟨(some 47), .faddr 6, [.tmp 1], (some (46, true))⟩,
    ⟨(some 48), .load 1 false, [.tmp 47], (some (46, true))⟩,
    ⟨(some 49), .cmp .leq, [.tmp 48, .const (.int .i64 20000000)], (some (46, true))⟩,
    ⟨(some 50), .pick, [.tmp 46, .tmp 49, .const (.bool false)], none⟩,
    ⟨(some 2), .mov, [.tmp 50], none⟩] false)
  .ret))))⟩
theorem inRangeLow : lowF Try.prog {} Try.f28 = some inRangeIr := by kernel_rfl
def inRangeS : Spec := spec Ride (fun r => [aR r]) (fun _ => True) (fun r => B (okRb r))
theorem inRangeV : fnV Try.prog inRangeIr inRangeS := by
  intro (x : Ride) hx
  repeat' ((conv => whnf); first | (refine ⟨fun h => ?_, fun h => ?_⟩ <;> try (exfalso; omega)) | refine ⟨_, isID_h, _, trivial, leVs_of_eq rfl, .inr rfl, rfl, ?_⟩ | refine ⟨[], rfl, trivial, congrArg CV.bool ?_⟩ | refine ⟨[], rfl, trivial, congrArg (CV.int .i64) ?_⟩ | refine ⟨⟨by omega, by omega⟩, ?_⟩ | refine ⟨by omega, ?_⟩ | fail)
  all_goals (first | rfl | refine (decide_eq_true ?_).symm | refine (decide_eq_false ?_).symm)
  all_goals ((simp only [isIDb, decide_eq_true_eq, decide_eq_false_iff_not] at *); unfold okR; omega)
theorem inRange_h : Holds Try.prog 28 inRangeS := holds_of mix Try.func28 inRangeLow (fun _ => rfl) inRangeV

/-! skiarea/skiarearef31.ranges -/
def rangesIr : IFn := ⟨71, [.tmp 2],
  (.seq (.ops [
    ⟨(some 1), .box, [.tmp 0], none⟩,
    ⟨(some 2), .mov, [.const (.bool false)], none⟩] false)
  (.seq (.ops [
    ⟨(some 3), .faddr 0, [.tmp 1], none⟩,
    ⟨(some 4), .load 1 false, [.tmp 3], none⟩,
    ⟨(some 5), .cmp .geq, [.tmp 4, .const (.int .i64 1)], none⟩,
    ⟨(some 6), .mov, [.tmp 5], none⟩,
    ⟨(some 7), .faddr 0, [.tmp 1], (some (6, true))⟩,
    ⟨(some 8), .load 1 false, [.tmp 7], (some (6, true))⟩,
    ⟨(some 9), .cmp .leq, [.tmp 8, .const (.int .i64 9999)], (some (6, true))⟩,
    ⟨(some 10), .pick, [.tmp 6, .tmp 9, .const (.bool false)], none⟩,
    ⟨(some 11), .mov, [.tmp 10], none⟩,
    ⟨(some 12), .faddr 2, [.tmp 1], (some (11, true))⟩,
    ⟨(some 13), .load 1 false, [.tmp 12], (some (11, true))⟩,
    ⟨(some 14), .cmp .geq, [.tmp 13, .const (.int .i64 1)], (some (11, true))⟩,
    ⟨(some 15), .pick, [.tmp 11, .tmp 14, .const (.bool false)], none⟩,
    ⟨(some 16), .mov, [.tmp 15], none⟩,
    ⟨(some 17), .faddr 2, [.tmp 1], (some (16, true))⟩,
    ⟨(some 18), .load 1 false, [.tmp 17], (some (16, true))⟩,
    ⟨(some 19), .cmp .leq, [.tmp 18, .const (.int .i64 9999)], (some (16, true))⟩,
    ⟨(some 20), .pick, [.tmp 16, .tmp 19, .const (.bool false)], none⟩,
    ⟨(some 21), .mov, [.tmp 20], none⟩,
    ⟨(some 22), .faddr 4, [.tmp 1], (some (21, true))⟩,
    ⟨(some 23), .load 1 false, [.tmp 22], (some (21, true))⟩,
    ⟨(some 24), .cmp .geq, [.tmp 23, .const (.int .i64 1)], (some (21, true))⟩,
    ⟨(some 25), .pick, [.tmp 21, .tmp 24, .const (.bool false)], none⟩,
    ⟨(some 26), .mov, [.tmp 25], none⟩,
    ⟨(some 27), .faddr 4, [.tmp 1], (some (26, true))⟩,
    ⟨(some 28), .load 1 false, [.tmp 27], (some (26, true))⟩,
    ⟨(some 29), .cmp .leq, [.tmp 28, .const (.int .i64 9999)], (some (26, true))⟩,
    ⟨(some 30), .pick, [.tmp 26, .tmp 29, .const (.bool false)], none⟩,
    ⟨(some 31), .mov, [.tmp 30], none⟩,
    ⟨(some 32), .faddr 5, [.tmp 1], (some (31, true))⟩,
    ⟨(some 33), .load 1 false, [.tmp 32], (some (31, true))⟩,
    ⟨(some 34), .cmp .geq, [.tmp 33, .const (.int .i64 1)], (some (31, true))⟩,
    ⟨(some 35), .pick, [.tmp 31, .tmp 34, .const (.bool false)], none⟩,
    ⟨(some 36), .mov, [.tmp 35], none⟩,
    ⟨(some 37), .faddr 5, [.tmp 1], (some (36, true))⟩,
    ⟨(some 38), .load 1 false, [.tmp 37], (some (36, true))⟩,
    ⟨(some 39), .cmp .leq, [.tmp 38, .const (.int .i64 9999)], (some (36, true))⟩,
    ⟨(some 40), .pick, [.tmp 36, .tmp 39, .const (.bool false)], none⟩,
    ⟨(some 41), .mov, [.tmp 40], none⟩,
    ⟨(some 42), .faddr 1, [.tmp 1], (some (41, true))⟩,
    ⟨(some 43), .load 1 false, [.tmp 42], (some (41, true))⟩,
    ⟨(some 44), .cmp .geq, [.tmp 43, .const (.int .i64 1)], (some (41, true))⟩,
    ⟨(some 45), .pick, [.tmp 41, .tmp 44, .const (.bool false)], none⟩,
    ⟨(some 46), .mov, [.tmp 45], none⟩,
    ⟨(some 47), .faddr 1, [.tmp 1], (some (46, true))⟩,
    ⟨(some 48), .load 1 false, [.tmp 47], (some (46, true))⟩,
    ⟨(some 49), .cmp .leq, [.tmp 48, .const (.int .i64 1000000)], (some (46, true))⟩,
    ⟨(some 50), .pick, [.tmp 46, .tmp 49, .const (.bool false)], none⟩,
    ⟨(some 51), .mov, [.tmp 50], none⟩,
    ⟨(some 52), .faddr 3, [.tmp 1], (some (51, true))⟩,
    ⟨(some 53), .load 1 false, [.tmp 52], (some (51, true))⟩,
    ⟨(some 54), .cmp .geq, [.tmp 53, .const (.int .i64 1)], (some (51, true))⟩,
    ⟨(some 55), .pick, [.tmp 51, .tmp 54, .const (.bool false)], none⟩,
    ⟨(some 56), .mov, [.tmp 55], none⟩,
    ⟨(some 57), .faddr 3, [.tmp 1], (some (56, true))⟩,
    ⟨(some 58), .load 1 false, [.tmp 57], (some (56, true))⟩,
    ⟨(some 59), .cmp .leq, [.tmp 58, .const (.int .i64 1000000)], (some (56, true))⟩,
    ⟨(some 60), .pick, [.tmp 56, .tmp 59, .const (.bool false)], none⟩,
    ⟨(some 61), .mov, [.tmp 60], none⟩,
    ⟨(some 62), .faddr 6, [.tmp 1], (some (61, true))⟩,
    ⟨(some 63), .load 1 false, [.tmp 62], (some (61, true))⟩,
    ⟨(some 64), .cmp .geq, [.tmp 63, .const (.int .i64 0)], (some (61, true))⟩,
    ⟨(some 65), .pick, [.tmp 61, .tmp 64, .const (.bool false)], none⟩,
    ⟨(some 66), .mov, [.tmp 65], none⟩,
    ⟨(some 67), .faddr 6, [.tmp 1], (some (66, true))⟩,
    ⟨(some 68), .load 1 false, [.tmp 67], (some (66, true))⟩,
    ⟨(some 69), .cmp .leq, [.tmp 68, .const (.int .i64 20000000)], (some (66, true))⟩,
    ⟨(some 70), .pick, [.tmp 66, .tmp 69, .const (.bool false)], none⟩,
    ⟨(some 2), .mov, [.tmp 70], none⟩] false)
  .ret))⟩
theorem rangesLow : lowF Try.prog {} Try.f30 = some rangesIr := by kernel_rfl
def rangesS : Spec := spec Ride (fun r => [aR r]) (fun _ => True) (fun r => B (okRb r))
theorem rangesV : fnV Try.prog rangesIr rangesS := by
  intro (x : Ride) hx
  repeat' ((conv => whnf); first | (refine ⟨fun h => ?_, fun h => ?_⟩ <;> try (exfalso; omega)) | refine ⟨[], rfl, trivial, congrArg CV.bool ?_⟩ | refine ⟨[], rfl, trivial, congrArg (CV.int .i64) ?_⟩ | refine ⟨⟨by omega, by omega⟩, ?_⟩ | refine ⟨by omega, ?_⟩ | fail)
  all_goals (first | rfl | refine (decide_eq_true ?_).symm | refine (decide_eq_false ?_).symm)
  all_goals (unfold okR; omega)
theorem ranges_h : Holds Try.prog 30 rangesS := holds_of mix Try.func30 rangesLow (fun _ => rfl) rangesV

/-! skiarea/skiarearef31.before -/
def beforeIr : IFn := ⟨24, [.tmp 4],
  (.seq (.ops [
    ⟨(some 2), .box, [.tmp 0], none⟩,
    ⟨(some 3), .box, [.tmp 1], none⟩,
    ⟨(some 4), .mov, [.const (.bool false)], none⟩] false)
  (.seq (.ops [
    ⟨(some 5), .faddr 0, [.tmp 2], none⟩,
    ⟨(some 6), .load 1 false, [.tmp 5], none⟩,
    ⟨(some 7), .faddr 0, [.tmp 3], none⟩,
    ⟨(some 8), .load 1 false, [.tmp 7], none⟩,
    ⟨(some 9), .cmp .lss, [.tmp 6, .tmp 8], none⟩,
    ⟨(some 10), .mov, [.tmp 9], none⟩,
    ⟨(some 11), .faddr 0, [.tmp 2], (some (10, false))⟩,
    ⟨(some 12), .load 1 false, [.tmp 11], (some (10, false))⟩,
    ⟨(some 13), .faddr 0, [.tmp 3], (some (10, false))⟩,
    ⟨(some 14), .load 1 false, [.tmp 13], (some (10, false))⟩,
    ⟨(some 15), .cmp .eql, [.tmp 12, .tmp 14], (some (10, false))⟩,
    ⟨(some 16), .mov, [.tmp 15], (some (10, false))⟩,
    ⟨(some 17), .faddr 1, [.tmp 2], (some (16, true))⟩,
    ⟨(some 18), .load 1 false, [.tmp 17], (some (16, true))⟩,
    ⟨(some 19), .faddr 1, [.tmp 3], (some (16, true))⟩,
    ⟨(some 20), .load 1 false, [.tmp 19], (some (16, true))⟩,
    ⟨(some 21), .cmp .lss, [.tmp 18, .tmp 20], (some (16, true))⟩,
    ⟨(some 22), .pick, [.tmp 16, .tmp 21, .const (.bool false)], (some (10, false))⟩,
    ⟨(some 23), .pick, [.tmp 10, .const (.bool true), .tmp 22], none⟩,
    ⟨(some 4), .mov, [.tmp 23], none⟩] false)
  .ret))⟩
theorem beforeLow : lowF Try.prog {} Try.f31 = some beforeIr := by kernel_rfl
def beforeS : Spec := spec (Ride × Ride) (fun p => [aR p.1, aR p.2]) (fun _ => True) (fun p => B (beforeB p.1 p.2))
theorem beforeV : fnV Try.prog beforeIr beforeS := by
  intro ⟨x, y⟩ hx
  repeat' ((conv => whnf); first | (refine ⟨fun h => ?_, fun h => ?_⟩ <;> try (exfalso; omega)) | refine ⟨[], rfl, trivial, congrArg CV.bool ?_⟩ | refine ⟨[], rfl, trivial, congrArg (CV.int .i64) ?_⟩ | refine ⟨⟨by omega, by omega⟩, ?_⟩ | refine ⟨by omega, ?_⟩ | fail)
  all_goals (first | rfl | refine (decide_eq_true ?_).symm | refine (decide_eq_false ?_).symm)
  all_goals (unfold before; omega)
theorem before_h : Holds Try.prog 31 beforeS := holds_of mix Try.func31 beforeLow (fun _ => rfl) beforeV

/-! cmp.isNaN[int] -/
def isNaNIr : IFn := ⟨6, [.tmp 2],
  (.seq (.ops [
    ⟨(some 2), .mov, [.const (.bool false)], none⟩] false)
  (.seq (.ops [
    ⟨(some 3), .mov, [.tmp 0], none⟩,
    ⟨(some 4), .mov, [.tmp 0], none⟩,
    ⟨(some 5), .cmp .neq, [.tmp 3, .tmp 4], none⟩,
    ⟨(some 2), .mov, [.tmp 5], none⟩] false)
  .ret))⟩
theorem isNaNLow : lowF Try.prog {} Try.f41 = some isNaNIr := by kernel_rfl
def isNaNS : Spec := spec Int (fun n => [I n]) (fun _ => True) (fun _ => B false)
theorem isNaNV : fnV Try.prog isNaNIr isNaNS := by
  intro (x : Int) hx
  repeat' ((conv => whnf); first | (refine ⟨fun h => ?_, fun h => ?_⟩ <;> try (exfalso; omega)) | refine ⟨[], rfl, trivial, congrArg CV.bool ?_⟩ | refine ⟨[], rfl, trivial, congrArg (CV.int .i64) ?_⟩ | refine ⟨⟨by omega, by omega⟩, ?_⟩ | refine ⟨by omega, ?_⟩ | fail)
  rfl
theorem isNaN_h : Holds Try.prog 41 isNaNS := holds_of mix Try.func41 isNaNLow (fun _ => rfl) isNaNV

/-! cmp.Compare[int] -/
def compareIr : IFn := ⟨20, [.tmp 4],
  (.seq (.ops [
    ⟨(some 4), .mov, [.const (.int .i64 0)], none⟩] false)
  (.seq (.ops [
    ⟨(some 7), .mov, [.tmp 0], none⟩,
    ⟨(some 8), .call 41, [.tmp 7], none⟩,
    ⟨(some 5), .mov, [.tmp 8], none⟩] false)
  (.seq (.ops [
    ⟨(some 9), .mov, [.tmp 1], none⟩,
    ⟨(some 10), .call 41, [.tmp 9], none⟩,
    ⟨(some 6), .mov, [.tmp 10], none⟩] false)
  (.seq (.seq (.ops [
    ⟨(some 11), .mov, [.tmp 5], none⟩] false)
  (.cond (.tmp 11)
    (.seq (.seq (.ops [
      ⟨(some 12), .mov, [.tmp 6], none⟩] false)
    (.cond (.tmp 12)
      (.seq (.ops [
        ⟨(some 4), .mov, [.const (.int .i64 0)], none⟩] false)
      .ret)
      .skip))
    (.seq (.ops [
      ⟨(some 4), .mov, [.const (.int .i64 (-1))], none⟩] false)
    .ret))
    .skip))
  (.seq (.seq (.ops [
    ⟨(some 13), .mov, [.tmp 6], none⟩] false)
  (.cond (.tmp 13)
    (.seq (.ops [
      ⟨(some 4), .mov, [.const (.int .i64 1)], none⟩] false)
    .ret)
    .skip))
  (.seq (.seq (.ops [
    ⟨(some 14), .mov, [.tmp 0], none⟩,
    ⟨(some 15), .mov, [.tmp 1], none⟩,
    ⟨(some 16), .cmp .lss, [.tmp 14, .tmp 15], none⟩] false)
  (.cond (.tmp 16)
    (.seq (.ops [
      ⟨(some 4), .mov, [.const (.int .i64 (-1))], none⟩] false)
    .ret)
    .skip))
  (.seq (.seq (.ops [
    ⟨(some 17), .mov, [.tmp 0], none⟩,
    ⟨(some 18), .mov, [.tmp 1], none⟩,
    ⟨(some 19), .cmp .gtr, [.tmp 17, .tmp 18], none⟩] false)
  (.cond (.tmp 19)
    (.seq (.ops [
      ⟨(some 4), .mov, [.const (.int .i64 1)], none⟩] false)
    .ret)
    .skip))
  (.seq (.ops [
    ⟨(some 4), .mov, [.const (.int .i64 0)], none⟩] false)
  .ret))))))))⟩
theorem compareLow : lowF Try.prog {} Try.f36 = some compareIr := by kernel_rfl
def compareS : Spec := spec (Int × Int) (fun p => [I p.1, I p.2]) (fun _ => True) (fun p => I (cmpI p.1 p.2))
theorem compareV : fnV Try.prog compareIr compareS := by
  intro ⟨x, y⟩ hx
  repeat' ((conv => whnf); first | (refine ⟨fun h => ?_, fun h => ?_⟩ <;> try (exfalso; omega)) | refine ⟨_, isNaN_h, _, trivial, leVs_of_eq rfl, .inr rfl, rfl, ?_⟩ | refine ⟨[], rfl, trivial, congrArg CV.bool ?_⟩ | refine ⟨[], rfl, trivial, congrArg (CV.int .i64) ?_⟩ | refine ⟨⟨by omega, by omega⟩, ?_⟩ | refine ⟨by omega, ?_⟩ | fail)
  all_goals (unfold cmpI; (repeat split) <;> first | rfl | omega | contradiction)
theorem compare_h : Holds Try.prog 36 compareS := holds_of mix Try.func36 compareLow (fun _ => rfl) compareV

/-! cmp.Or[int] -/
def orIr : IFn := ⟨18, [.tmp 2],
  (.seq (.ops [
    ⟨(some 2), .mov, [.const (.int .i64 0)], none⟩] false)
  (.seq (.ops [
    ⟨(some 3), .mov, [.const (.int .i64 0)], none⟩] false)
  (.seq (.seq (.ops [
    ⟨(some 6), .mov, [.tmp 0], none⟩,
    ⟨(some 7), .len, [.tmp 6], none⟩,
    ⟨(some 8), .mov, [.const (.int .i64 0)], none⟩] false)
  (.block 0
    (.loop
      (.seq (.ops [
        ⟨(some 9), .cmp .lss, [.tmp 8, .tmp 7], none⟩] false)
      (.seq (.cond (.tmp 9)
        .skip
        (.exit 0))
      (.seq (.block 1
        (.seq (.ops [
          ⟨(some 10), .idx 1, [.tmp 6, .tmp 8], none⟩,
          ⟨(some 11), .load 1 false, [.tmp 10], none⟩,
          ⟨(some 5), .mov, [.tmp 11], none⟩] false)
        (.seq (.ops [
          ⟨(some 12), .mov, [.tmp 5], none⟩,
          ⟨(some 13), .mov, [.tmp 3], none⟩,
          ⟨(some 14), .cmp .neq, [.tmp 12, .tmp 13], none⟩] false)
        (.cond (.tmp 14)
          (.seq (.ops [
            ⟨(some 15), .mov, [.tmp 5], none⟩,
            ⟨(some 2), .mov, [.tmp 15], none⟩] false)
          .ret)
          .skip))))
      (.ops [
        ⟨(some 16), .bin .add .i64 false, [.tmp 8, .const (.int .i64 1)], none⟩,
        ⟨(some 8), .mov, [.tmp 16], none⟩] false)))))))
  (.seq (.ops [
    ⟨(some 17), .mov, [.tmp 3], none⟩,
    ⟨(some 2), .mov, [.tmp 17], none⟩] false)
  .ret))))⟩
theorem orLow : lowF Try.prog {} Try.f35 = some orIr := by kernel_rfl
def orS : Spec := spec (List Int) (fun l => [L 1 (l.map cI)]) (fun l => l.length ≤ 1000) (fun l => I (orI l))
theorem orV : fnV Try.prog orIr orS := by
  intro (xs : List Int) hx
  replace hx : xs.length ≤ 1000 := hx
  have hl : (xs.map cI).length = xs.length := List.length_map ..
  conv => whnf
  refine ⟨Nat, fun k => ⟨[(6, L 1 (xs.map cI)), (7, I (xs.map cI).length), (8, I k), (3, I 0)], [], 0⟩, fun k => k ≤ xs.length ∧ orI xs = orI (xs.drop k), fun k => xs.length - k, ⟨0, ⟨by omega, by simp⟩, [], ⟨⟨rfl, rfl⟩, ⟨⟨rfl, rfl⟩, ⟨⟨rfl, rfl⟩, ⟨⟨rfl, rfl⟩, trivial⟩⟩⟩⟩, trivial, rfl, rfl⟩, fun k hk => ?_⟩
  obtain ⟨hk, ho⟩ := hk
  conv => whnf
  refine ⟨fun h => ?_, fun h => ?_⟩
  · conv => whnf
    refine ⟨by omega, fun r hr => ?_⟩
    obtain ⟨x, hx', rfl⟩ := map_get hr
    rw [Int.toNat_natCast] at hx'
    have hs := orI_step hx'
    conv => whnf
    refine ⟨fun h0 => ?_, fun h0 => ?_⟩
    · conv => whnf
      refine ⟨[], rfl, trivial, congrArg (CV.int .i64) ?_⟩
      rw [ho, hs, if_neg h0]
    · conv => whnf
      refine ⟨⟨by omega, by omega⟩, ?_⟩
      conv => whnf
      refine ⟨k + 1, ⟨⟨by omega, by rw [ho, hs, if_pos (Decidable.not_not.1 h0)]⟩, by dsimp only; omega⟩, [], ⟨⟨rfl, rfl⟩, ⟨⟨rfl, rfl⟩, ⟨⟨rfl, rfl⟩, ⟨⟨rfl, rfl⟩, trivial⟩⟩⟩⟩, trivial, rfl, rfl⟩
  · conv => whnf
    refine ⟨[], rfl, trivial, congrArg (CV.int .i64) ?_⟩
    rw [ho, List.drop_eq_nil_of_le (by omega), orI]
theorem or_h : Holds Try.prog 35 orS := holds_of mix Try.func35 orLow (fun _ => rfl) orV

/-! skiarea/rides.order -/
def orderIr : IFn := ⟨17, [.tmp 4],
  (.seq (.ops [
    ⟨(some 2), .box, [.tmp 0], none⟩,
    ⟨(some 3), .box, [.tmp 1], none⟩,
    ⟨(some 4), .mov, [.const (.int .i64 0)], none⟩] false)
  (.seq (.ops [
    ⟨(some 5), .faddr 0, [.tmp 2], none⟩,
    ⟨(some 6), .load 1 false, [.tmp 5], none⟩,
    ⟨(some 7), .faddr 0, [.tmp 3], none⟩,
    ⟨(some 8), .load 1 false, [.tmp 7], none⟩,
    ⟨(some 9), .call 36, [.tmp 6, .tmp 8], none⟩,
    ⟨(some 10), .faddr 1, [.tmp 2], none⟩,
    ⟨(some 11), .load 1 false, [.tmp 10], none⟩,
    ⟨(some 12), .faddr 1, [.tmp 3], none⟩,
    ⟨(some 13), .load 1 false, [.tmp 12], none⟩,
    ⟨(some 14), .call 36, [.tmp 11, .tmp 13], none⟩,
    ⟨(some 15), .buildSl 3 1, [.tmp 9, .tmp 14], none⟩,
    ⟨(some 16), .call 35, [.tmp 15], none⟩,
    ⟨(some 4), .mov, [.tmp 16], none⟩] true)
  .ret))⟩
theorem orderLow : lowF Try.prog {} Try.f29 = some orderIr := by kernel_rfl
def orderS : Spec := spec (Ride × Ride) (fun p => [aR p.1, aR p.2]) (fun _ => True) (fun p => I (cmpR p.1 p.2))
theorem orderV : fnV Try.prog orderIr orderS := by
  intro ⟨x, y⟩ hx
  repeat' ((conv => whnf); first | (refine ⟨fun h => ?_, fun h => ?_⟩ <;> try (exfalso; omega)) | refine ⟨_, compare_h, (_, _), trivial, leVs_of_eq rfl, .inr rfl, rfl, ?_⟩ | refine ⟨_, or_h, [_, _], (by show (2 : Nat) ≤ 1000; omega), leVs_of_eq rfl, .inr rfl, rfl, ?_⟩ | refine ⟨[], rfl, trivial, congrArg CV.bool ?_⟩ | refine ⟨[], rfl, trivial, congrArg (CV.int .i64) ?_⟩ | refine ⟨⟨by omega, by omega⟩, ?_⟩ | refine ⟨by omega, ?_⟩ | fail)
  exact cmpR_eq x y
theorem order_h : Holds Try.prog 29 orderS := holds_of mix Try.func29 orderLow (fun _ => rfl) orderV

end Go.Proofs.Ytfghmpfiemmbgaa
