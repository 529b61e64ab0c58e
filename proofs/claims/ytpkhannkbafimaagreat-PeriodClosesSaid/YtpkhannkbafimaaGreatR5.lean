/- Periods: equal lists; few; copies. -/
import Derived.Test.YtpkhannkbafimaaGreatR4
namespace Go.Proofs.YtpkhannkbafimaaGreat
open Go.RowKit
theorem pst_ext {x y : Pst} (h : x.ref = y.ref ∧ x.fr = y.fr ∧ x.to = y.to ∧ x.am = y.am ∧ True) : x = y := by
  obtain ⟨a0, a1, a2, a3, _⟩ := h
  cases x; cases y; simp_all
theorem pst_nn {x y : Pst} (h : ¬ ¬ (x.ref = y.ref ∧ x.fr = y.fr ∧ x.to = y.to ∧ x.am = y.am ∧ True)) : x = y := pst_ext (Decidable.not_not.1 h)
theorem pst_ne {x y : Pst} (h : ¬ (x.ref = y.ref ∧ x.fr = y.fr ∧ x.to = y.to ∧ x.am = y.am ∧ True)) : x ≠ y := fun e => h (by subst e; exact ⟨rfl, rfl, rfl, rfl, trivial⟩)
theorem ride_ext {x y : Ride} (h : x.gate = y.gate ∧ x.seq = y.seq ∧ x.serial = y.serial ∧ x.counter = y.counter ∧ x.product = y.product ∧ x.lift = y.lift ∧ x.time = y.time ∧ True) : x = y := by
  obtain ⟨a0, a1, a2, a3, a4, a5, a6, _⟩ := h
  cases x; cases y; simp_all
theorem ride_nn {x y : Ride} (h : ¬ ¬ (x.gate = y.gate ∧ x.seq = y.seq ∧ x.serial = y.serial ∧ x.counter = y.counter ∧ x.product = y.product ∧ x.lift = y.lift ∧ x.time = y.time ∧ True)) : x = y := ride_ext (Decidable.not_not.1 h)
theorem ride_ne {x y : Ride} (h : ¬ (x.gate = y.gate ∧ x.seq = y.seq ∧ x.serial = y.serial ∧ x.counter = y.counter ∧ x.product = y.product ∧ x.lift = y.lift ∧ x.time = y.time ∧ True)) : x ≠ y := fun e => h (by subst e; exact ⟨rfl, rfl, rfl, rfl, rfl, rfl, rfl, trivial⟩)
theorem share_ext {x y : Share} (h : x.o = y.o ∧ x.a = y.a ∧ True) : x = y := by
  obtain ⟨a0, a1, _⟩ := h
  cases x; cases y; simp_all
theorem share_ne {x y : Share} (h : ¬ (x.o = y.o ∧ x.a = y.a ∧ True)) : x ≠ y := fun e => h (by subst e; exact ⟨rfl, rfl, trivial⟩)
theorem cnt_ext {x y : Cnt} (h : x.per = y.per ∧ x.r.gate = y.r.gate ∧ x.r.seq = y.r.seq ∧ x.r.serial = y.r.serial ∧ x.r.counter = y.r.counter ∧ x.r.product = y.r.product ∧ x.r.lift = y.r.lift ∧ x.r.time = y.r.time ∧ True) : x = y := by
  obtain ⟨a0, a1⟩ := h
  have := ride_ext a1
  cases x; cases y; simp_all
theorem cnt_nn {x y : Cnt} (h : ¬ ¬ (x.per = y.per ∧ x.r.gate = y.r.gate ∧ x.r.seq = y.r.seq ∧ x.r.serial = y.r.serial ∧ x.r.counter = y.r.counter ∧ x.r.product = y.r.product ∧ x.r.lift = y.r.lift ∧ x.r.time = y.r.time ∧ True)) : x = y := cnt_ext (Decidable.not_not.1 h)

/-! skiarea/skiarearef09.Same -/
def sameOIr : IFn := ⟨26, [.tmp 4],
 (.seq (.ops [
 ⟨(some 4), .mov, [.const (.bool false)], none⟩] false)
 (.seq (.seq (.ops [
 ⟨(some 6), .mov, [.tmp 0], none⟩,
 ⟨(some 7), .len, [.tmp 6], none⟩,
 ⟨(some 8), .mov, [.tmp 1], none⟩,
 ⟨(some 9), .len, [.tmp 8], none⟩,
 ⟨(some 10), .cmp .neq, [.tmp 7, .tmp 9], none⟩] false)
 (.cond (.tmp 10)
 (.seq (.ops [
 ⟨(some 4), .mov, [.const (.bool false)], none⟩] false)
 .ret)
 .skip))
 (.seq (.seq (.ops [
 ⟨(some 5), .mov, [.const (.int .i64 0)], none⟩] false)
 (.block 0
 (.loop
 (.seq (.seq (.ops [
 ⟨(some 11), .mov, [.tmp 5], none⟩,
 ⟨(some 12), .mov, [.tmp 0], none⟩,
 ⟨(some 13), .len, [.tmp 12], none⟩,
 ⟨(some 14), .cmp .lss, [.tmp 11, .tmp 13], none⟩] false)
 (.cond (.tmp 14)
 .skip
 (.exit 0)))
 (.seq (.block 1
 (.seq (.ops [
 ⟨(some 17), .mov, [.tmp 0], none⟩,
 ⟨(some 18), .mov, [.tmp 5], none⟩,
 ⟨(some 19), .idx 4, [.tmp 17, .tmp 18], none⟩,
 ⟨(some 20), .load 4 true, [.tmp 19], none⟩,
 ⟨(some 21), .mov, [.tmp 1], none⟩,
 ⟨(some 22), .mov, [.tmp 5], none⟩,
 ⟨(some 23), .idx 4, [.tmp 21, .tmp 22], none⟩,
 ⟨(some 24), .load 4 true, [.tmp 23], none⟩,
 ⟨(some 25), .eqa [false, false, false, false] true, [.tmp 20, .tmp 24], none⟩] true)
 (.cond (.tmp 25)
 (.seq (.ops [
 ⟨(some 4), .mov, [.const (.bool false)], none⟩] false)
 .ret)
 .skip)))
 (.ops [
 ⟨(some 15), .mov, [.tmp 5], none⟩,
 ⟨(some 16), .bin .add .i64 false, [.tmp 15, .const (.int .i64 1)], none⟩,
 ⟨(some 5), .mov, [.tmp 16], none⟩] false))))))
 (.seq (.ops [
 ⟨(some 4), .mov, [.const (.bool true)], none⟩] false)
 .ret))))⟩
theorem sameOLow : lowF Tryz.prog {} Tryz.f37 = some sameOIr := by kernel_rfl
def sameOS : Spec := spec (List Pst × List Pst) (fun p => [L 4 (p.1.map encO), L 4 (p.2.map encO)]) (fun p => p.1.length ≤ 9223372036854775807) (fun p => B (decide (p.1 = p.2)))
theorem sameOV : fnV Tryz.prog sameOIr sameOS := by
  intro ⟨(xs : List Pst), (ys : List Pst)⟩ hx
  replace hx : xs.length ≤ 9223372036854775807 := hx
  have hl : (xs.map encO).length = xs.length := List.length_map ..
  have hl2 : (ys.map encO).length = ys.length := List.length_map ..
  conv => whnf
  refine ⟨fun h => ?_, fun h => ?_⟩
  · conv => whnf
    refine ⟨[], rfl, trivial, congrArg CV.bool ?_⟩
    exact (decide_eq_false fun (e : xs = ys) => h (by subst e; rfl)).symm
  have he : xs.length = ys.length := by have h : ((xs.map encO).length : Int) = (ys.map encO).length := Decidable.not_not.1 h; omega
  conv => whnf
  refine ⟨Nat, fun xq => ⟨[(0, L 4 (xs.map encO)), (1, L 4 (ys.map encO)), (5, I xq)], [], 0⟩, fun xq => xq ≤ xs.length ∧ xs.take xq = ys.take xq, fun xq => xs.length - xq, ⟨0, ?_, [], ⟨⟨rfl, rfl⟩, ⟨⟨rfl, rfl⟩, ⟨⟨rfl, rfl⟩, trivial⟩⟩⟩, trivial, rfl, rfl, rfl⟩, ?_⟩
  · (try dsimp only); exact ⟨Nat.zero_le _, by simp⟩
  rintro k hk
  obtain ⟨hk, hr⟩ : k ≤ xs.length ∧ xs.take k = ys.take k := hk
  (try dsimp only)
  conv => whnf
  refine ⟨fun h => ?_, fun h => ?_⟩
  · replace h : (k : Int) < ((xs.map encO).length : Int) := h
    conv => whnf
    refine ⟨by omega, fun r hr' => ?_⟩
    obtain ⟨x, hx', rfl⟩ := map_get hr'
    rw [Int.toNat_natCast] at hx'
    conv => whnf
    refine ⟨by omega, fun r hr' => ?_⟩
    obtain ⟨y, hy', rfl⟩ := map_get hr'
    rw [Int.toNat_natCast] at hy'
    conv => whnf
    refine ⟨fun hc => ?_, fun hc => ?_⟩
    · conv => whnf
      refine ⟨[], rfl, trivial, congrArg CV.bool ?_⟩
      exact (decide_eq_false (ne_at hx' hy' (fun e => hc (by subst e; exact ⟨rfl, rfl, rfl, rfl, trivial⟩)))).symm
    · conv => whnf
      refine ⟨⟨by omega, by omega⟩, ?_⟩
      conv => whnf
      (refine ⟨k + 1, ⟨?_, by (try dsimp only); omega⟩, [], ⟨⟨rfl, rfl⟩, ⟨⟨rfl, rfl⟩, ⟨⟨rfl, rfl⟩, trivial⟩⟩⟩, trivial, rfl, rfl, rfl⟩; (try dsimp only); exact ⟨by omega, take_step hr hx' hy' (pst_nn hc)⟩)
  · conv => whnf
    refine ⟨[], rfl, trivial, congrArg CV.bool ?_⟩
    exact (decide_eq_true (take_all hr (by omega) (by omega))).symm
theorem sameO_h : Holds Tryz.prog 37 sameOS := holds_of mix Tryz.func37 sameOLow (fun _ => rfl) sameOV

/-! skiarea/skiarearef38.SameCounted -/
def sameCIr : IFn := ⟨26, [.tmp 4],
 (.seq (.ops [
 ⟨(some 4), .mov, [.const (.bool false)], none⟩] false)
 (.seq (.seq (.ops [
 ⟨(some 6), .mov, [.tmp 0], none⟩,
 ⟨(some 7), .len, [.tmp 6], none⟩,
 ⟨(some 8), .mov, [.tmp 1], none⟩,
 ⟨(some 9), .len, [.tmp 8], none⟩,
 ⟨(some 10), .cmp .neq, [.tmp 7, .tmp 9], none⟩] false)
 (.cond (.tmp 10)
 (.seq (.ops [
 ⟨(some 4), .mov, [.const (.bool false)], none⟩] false)
 .ret)
 .skip))
 (.seq (.seq (.ops [
 ⟨(some 5), .mov, [.const (.int .i64 0)], none⟩] false)
 (.block 0
 (.loop
 (.seq (.seq (.ops [
 ⟨(some 11), .mov, [.tmp 5], none⟩,
 ⟨(some 12), .mov, [.tmp 0], none⟩,
 ⟨(some 13), .len, [.tmp 12], none⟩,
 ⟨(some 14), .cmp .lss, [.tmp 11, .tmp 13], none⟩] false)
 (.cond (.tmp 14)
 .skip
 (.exit 0)))
 (.seq (.block 1
 (.seq (.ops [
 ⟨(some 17), .mov, [.tmp 0], none⟩,
 ⟨(some 18), .mov, [.tmp 5], none⟩,
 ⟨(some 19), .idx 8, [.tmp 17, .tmp 18], none⟩,
 ⟨(some 20), .load 8 true, [.tmp 19], none⟩,
 ⟨(some 21), .mov, [.tmp 1], none⟩,
 ⟨(some 22), .mov, [.tmp 5], none⟩,
 ⟨(some 23), .idx 8, [.tmp 21, .tmp 22], none⟩,
 ⟨(some 24), .load 8 true, [.tmp 23], none⟩,
 ⟨(some 25), .eqa [false, false, false, false, false, false, false, false] true, [.tmp 20, .tmp 24], none⟩] true)
 (.cond (.tmp 25)
 (.seq (.ops [
 ⟨(some 4), .mov, [.const (.bool false)], none⟩] false)
 .ret)
 .skip)))
 (.ops [
 ⟨(some 15), .mov, [.tmp 5], none⟩,
 ⟨(some 16), .bin .add .i64 false, [.tmp 15, .const (.int .i64 1)], none⟩,
 ⟨(some 5), .mov, [.tmp 16], none⟩] false))))))
 (.seq (.ops [
 ⟨(some 4), .mov, [.const (.bool true)], none⟩] false)
 .ret))))⟩
theorem sameCLow : lowF Tryz.prog {} Tryz.f36 = some sameCIr := by kernel_rfl
def sameCS : Spec := spec (List Cnt × List Cnt) (fun p => [L 8 (p.1.map encC), L 8 (p.2.map encC)]) (fun p => p.1.length ≤ 9223372036854775807) (fun p => B (decide (p.1 = p.2)))
theorem sameCV : fnV Tryz.prog sameCIr sameCS := by
  intro ⟨(xs : List Cnt), (ys : List Cnt)⟩ hx
  replace hx : xs.length ≤ 9223372036854775807 := hx
  have hl : (xs.map encC).length = xs.length := List.length_map ..
  have hl2 : (ys.map encC).length = ys.length := List.length_map ..
  conv => whnf
  refine ⟨fun h => ?_, fun h => ?_⟩
  · conv => whnf
    refine ⟨[], rfl, trivial, congrArg CV.bool ?_⟩
    exact (decide_eq_false fun (e : xs = ys) => h (by subst e; rfl)).symm
  have he : xs.length = ys.length := by have h : ((xs.map encC).length : Int) = (ys.map encC).length := Decidable.not_not.1 h; omega
  conv => whnf
  refine ⟨Nat, fun xq => ⟨[(0, L 8 (xs.map encC)), (1, L 8 (ys.map encC)), (5, I xq)], [], 0⟩, fun xq => xq ≤ xs.length ∧ xs.take xq = ys.take xq, fun xq => xs.length - xq, ⟨0, ?_, [], ⟨⟨rfl, rfl⟩, ⟨⟨rfl, rfl⟩, ⟨⟨rfl, rfl⟩, trivial⟩⟩⟩, trivial, rfl, rfl, rfl⟩, ?_⟩
  · (try dsimp only); exact ⟨Nat.zero_le _, by simp⟩
  rintro k hk
  obtain ⟨hk, hr⟩ : k ≤ xs.length ∧ xs.take k = ys.take k := hk
  (try dsimp only)
  conv => whnf
  refine ⟨fun h => ?_, fun h => ?_⟩
  · replace h : (k : Int) < ((xs.map encC).length : Int) := h
    conv => whnf
    refine ⟨by omega, fun r hr' => ?_⟩
    obtain ⟨x, hx', rfl⟩ := map_get hr'
    rw [Int.toNat_natCast] at hx'
    conv => whnf
    refine ⟨by omega, fun r hr' => ?_⟩
    obtain ⟨y, hy', rfl⟩ := map_get hr'
    rw [Int.toNat_natCast] at hy'
    conv => whnf
    refine ⟨fun hc => ?_, fun hc => ?_⟩
    · conv => whnf
      refine ⟨[], rfl, trivial, congrArg CV.bool ?_⟩
      exact (decide_eq_false (ne_at hx' hy' (fun e => hc (by subst e; exact ⟨rfl, rfl, rfl, rfl, rfl, rfl, rfl, rfl, trivial⟩)))).symm
    · conv => whnf
      refine ⟨⟨by omega, by omega⟩, ?_⟩
      conv => whnf
      (refine ⟨k + 1, ⟨?_, by (try dsimp only); omega⟩, [], ⟨⟨rfl, rfl⟩, ⟨⟨rfl, rfl⟩, ⟨⟨rfl, rfl⟩, trivial⟩⟩⟩, trivial, rfl, rfl, rfl⟩; (try dsimp only); exact ⟨by omega, take_step hr hx' hy' (cnt_nn hc)⟩)
  · conv => whnf
    refine ⟨[], rfl, trivial, congrArg CV.bool ?_⟩
    exact (decide_eq_true (take_all hr (by omega) (by omega))).symm
theorem sameC_h : Holds Tryz.prog 36 sameCS := holds_of mix Tryz.func36 sameCLow (fun _ => rfl) sameCV

/-! skiarea/skiarearef31.Same -/
def sameDIr : IFn := ⟨26, [.tmp 4],
 (.seq (.ops [
 ⟨(some 4), .mov, [.const (.bool false)], none⟩] false)
 (.seq (.seq (.ops [
 ⟨(some 6), .mov, [.tmp 0], none⟩,
 ⟨(some 7), .len, [.tmp 6], none⟩,
 ⟨(some 8), .mov, [.tmp 1], none⟩,
 ⟨(some 9), .len, [.tmp 8], none⟩,
 ⟨(some 10), .cmp .neq, [.tmp 7, .tmp 9], none⟩] false)
 (.cond (.tmp 10)
 (.seq (.ops [
 ⟨(some 4), .mov, [.const (.bool false)], none⟩] false)
 .ret)
 .skip))
 (.seq (.seq (.ops [
 ⟨(some 5), .mov, [.const (.int .i64 0)], none⟩] false)
 (.block 0
 (.loop
 (.seq (.seq (.ops [
 ⟨(some 11), .mov, [.tmp 5], none⟩,
 ⟨(some 12), .mov, [.tmp 0], none⟩,
 ⟨(some 13), .len, [.tmp 12], none⟩,
 ⟨(some 14), .cmp .lss, [.tmp 11, .tmp 13], none⟩] false)
 (.cond (.tmp 14)
 .skip
 (.exit 0)))
 (.seq (.block 1
 (.seq (.ops [
 ⟨(some 17), .mov, [.tmp 0], none⟩,
 ⟨(some 18), .mov, [.tmp 5], none⟩,
 ⟨(some 19), .idx 7, [.tmp 17, .tmp 18], none⟩,
 ⟨(some 20), .load 7 true, [.tmp 19], none⟩,
 ⟨(some 21), .mov, [.tmp 1], none⟩,
 ⟨(some 22), .mov, [.tmp 5], none⟩,
 ⟨(some 23), .idx 7, [.tmp 21, .tmp 22], none⟩,
 ⟨(some 24), .load 7 true, [.tmp 23], none⟩,
 ⟨(some 25), .eqa [false, false, false, false, false, false, false] true, [.tmp 20, .tmp 24], none⟩] true)
 (.cond (.tmp 25)
 (.seq (.ops [
 ⟨(some 4), .mov, [.const (.bool false)], none⟩] false)
 .ret)
 .skip)))
 (.ops [
 ⟨(some 15), .mov, [.tmp 5], none⟩,
 ⟨(some 16), .bin .add .i64 false, [.tmp 15, .const (.int .i64 1)], none⟩,
 ⟨(some 5), .mov, [.tmp 16], none⟩] false))))))
 (.seq (.ops [
 ⟨(some 4), .mov, [.const (.bool true)], none⟩] false)
 .ret))))⟩
theorem sameDLow : lowF Tryz.prog {} Tryz.f22 = some sameDIr := by kernel_rfl
def sameDS : Spec := spec (List Ride × List Ride) (fun p => [L 7 (p.1.map encD), L 7 (p.2.map encD)]) (fun p => p.1.length ≤ 9223372036854775807) (fun p => B (decide (p.1 = p.2)))
theorem sameDV : fnV Tryz.prog sameDIr sameDS := by
  intro ⟨(xs : List Ride), (ys : List Ride)⟩ hx
  replace hx : xs.length ≤ 9223372036854775807 := hx
  have hl : (xs.map encD).length = xs.length := List.length_map ..
  have hl2 : (ys.map encD).length = ys.length := List.length_map ..
  conv => whnf
  refine ⟨fun h => ?_, fun h => ?_⟩
  · conv => whnf
    refine ⟨[], rfl, trivial, congrArg CV.bool ?_⟩
    exact (decide_eq_false fun (e : xs = ys) => h (by subst e; rfl)).symm
  have he : xs.length = ys.length := by have h : ((xs.map encD).length : Int) = (ys.map encD).length := Decidable.not_not.1 h; omega
  conv => whnf
  refine ⟨Nat, fun xq => ⟨[(0, L 7 (xs.map encD)), (1, L 7 (ys.map encD)), (5, I xq)], [], 0⟩, fun xq => xq ≤ xs.length ∧ xs.take xq = ys.take xq, fun xq => xs.length - xq, ⟨0, ?_, [], ⟨⟨rfl, rfl⟩, ⟨⟨rfl, rfl⟩, ⟨⟨rfl, rfl⟩, trivial⟩⟩⟩, trivial, rfl, rfl, rfl⟩, ?_⟩
  · (try dsimp only); exact ⟨Nat.zero_le _, by simp⟩
  rintro k hk
  obtain ⟨hk, hr⟩ : k ≤ xs.length ∧ xs.take k = ys.take k := hk
  (try dsimp only)
  conv => whnf
  refine ⟨fun h => ?_, fun h => ?_⟩
  · replace h : (k : Int) < ((xs.map encD).length : Int) := h
    conv => whnf
    refine ⟨by omega, fun r hr' => ?_⟩
    obtain ⟨x, hx', rfl⟩ := map_get hr'
    rw [Int.toNat_natCast] at hx'
    conv => whnf
    refine ⟨by omega, fun r hr' => ?_⟩
    obtain ⟨y, hy', rfl⟩ := map_get hr'
    rw [Int.toNat_natCast] at hy'
    conv => whnf
    refine ⟨fun hc => ?_, fun hc => ?_⟩
    · conv => whnf
      refine ⟨[], rfl, trivial, congrArg CV.bool ?_⟩
      exact (decide_eq_false (ne_at hx' hy' (fun e => hc (by subst e; exact ⟨rfl, rfl, rfl, rfl, rfl, rfl, rfl, trivial⟩)))).symm
    · conv => whnf
      refine ⟨⟨by omega, by omega⟩, ?_⟩
      conv => whnf
      (refine ⟨k + 1, ⟨?_, by (try dsimp only); omega⟩, [], ⟨⟨rfl, rfl⟩, ⟨⟨rfl, rfl⟩, ⟨⟨rfl, rfl⟩, trivial⟩⟩⟩, trivial, rfl, rfl, rfl⟩; (try dsimp only); exact ⟨by omega, take_step hr hx' hy' (ride_nn hc)⟩)
  · conv => whnf
    refine ⟨[], rfl, trivial, congrArg CV.bool ?_⟩
    exact (decide_eq_true (take_all hr (by omega) (by omega))).symm
theorem sameD_h : Holds Tryz.prog 22 sameDS := holds_of mix Tryz.func22 sameDLow (fun _ => rfl) sameDV
def okPs (l : List Per) : Prop := l.length ≤ 9223372036854775807 ∧ ∀ p ∈ l, p.sh.length ≤ 9223372036854775807
/-- What the comparison of two periods looks at ahead of the shares. -/
def headP (x y : Per) : Prop := x.num = y.num ∧ (x.fr = y.fr ∧ x.to = y.to ∧ True) ∧ x.cl = y.cl ∧ x.sh.length = y.sh.length
theorem head_eq {x y : Per} (h : headP x y) (hs : x.sh = y.sh) : x = y := by
  obtain ⟨a, ⟨b, c, _⟩, d, _⟩ := h
  cases x; cases y; simp_all

/-! skiarea/skiarearef38.SamePeriods -/
def samePIr : IFn := ⟨97, [.tmp 4],
 (.seq (.ops [
 ⟨(some 4), .mov, [.const (.bool false)], none⟩] false)
 (.seq (.seq (.ops [
 ⟨(some 7), .mov, [.tmp 0], none⟩,
 ⟨(some 8), .len, [.tmp 7], none⟩,
 ⟨(some 9), .mov, [.tmp 1], none⟩,
 ⟨(some 10), .len, [.tmp 9], none⟩,
 ⟨(some 11), .cmp .neq, [.tmp 8, .tmp 10], none⟩] false)
 (.cond (.tmp 11)
 (.seq (.ops [
 ⟨(some 4), .mov, [.const (.bool false)], none⟩] false)
 .ret)
 .skip))
 (.seq (.seq (.ops [
 ⟨(some 5), .mov, [.const (.int .i64 0)], none⟩] false)
 (.block 0
 (.loop
 (.seq (.seq (.ops [
 ⟨(some 12), .mov, [.tmp 5], none⟩,
 ⟨(some 13), .mov, [.tmp 0], none⟩,
 ⟨(some 14), .len, [.tmp 13], none⟩,
 ⟨(some 15), .cmp .lss, [.tmp 12, .tmp 14], none⟩] false)
 (.cond (.tmp 15)
 .skip
 (.exit 0)))
 (.seq (.block 1
 (.seq (.seq (.ops [
 ⟨(some 18), .mov, [.tmp 0], none⟩,
 ⟨(some 19), .mov, [.tmp 5], none⟩,
 ⟨(some 20), .idx 5, [.tmp 18, .tmp 19], none⟩,
 ⟨(some 21), .faddr 0, [.tmp 20], none⟩,
 ⟨(some 22), .load 1 false, [.tmp 21], none⟩,
 ⟨(some 23), .mov, [.tmp 1], none⟩,
 ⟨(some 24), .mov, [.tmp 5], none⟩,
 ⟨(some 25), .idx 5, [.tmp 23, .tmp 24], none⟩,
 ⟨(some 26), .faddr 0, [.tmp 25], none⟩,
 ⟨(some 27), .load 1 false, [.tmp 26], none⟩,
 ⟨(some 28), .cmp .neq, [.tmp 22, .tmp 27], none⟩,
 ⟨(some 29), .mov, [.tmp 28], none⟩,
 ⟨(some 30), .mov, [.tmp 0], (some (29, false))⟩,
 ⟨(some 31), .mov, [.tmp 5], (some (29, false))⟩,
 ⟨(some 32), .idx 5, [.tmp 30, .tmp 31], (some (29, false))⟩,
 ⟨(some 33), .faddr 1, [.tmp 32], (some (29, false))⟩,
 ⟨(some 34), .load 2 true, [.tmp 33], (some (29, false))⟩,
 ⟨(some 35), .mov, [.tmp 1], (some (29, false))⟩,
 ⟨(some 36), .mov, [.tmp 5], (some (29, false))⟩,
 ⟨(some 37), .idx 5, [.tmp 35, .tmp 36], (some (29, false))⟩,
 ⟨(some 38), .faddr 1, [.tmp 37], (some (29, false))⟩,
 ⟨(some 39), .load 2 true, [.tmp 38], (some (29, false))⟩,
 ⟨(some 40), .eqa [false, false] true, [.tmp 34, .tmp 39], (some (29, false))⟩,
 ⟨(some 41), .pick, [.tmp 29, .const (.bool true), .tmp 40], none⟩,
 ⟨(some 42), .mov, [.tmp 41], none⟩,
 ⟨(some 43), .mov, [.tmp 0], (some (42, false))⟩,
 ⟨(some 44), .mov, [.tmp 5], (some (42, false))⟩,
 ⟨(some 45), .idx 5, [.tmp 43, .tmp 44], (some (42, false))⟩,
 ⟨(some 46), .faddr 3, [.tmp 45], (some (42, false))⟩,
 ⟨(some 47), .load 1 false, [.tmp 46], (some (42, false))⟩,
 ⟨(some 48), .mov, [.tmp 1], (some (42, false))⟩,
 ⟨(some 49), .mov, [.tmp 5], (some (42, false))⟩,
 ⟨(some 50), .idx 5, [.tmp 48, .tmp 49], (some (42, false))⟩,
 ⟨(some 51), .faddr 3, [.tmp 50], (some (42, false))⟩,
 ⟨(some 52), .load 1 false, [.tmp 51], (some (42, false))⟩,
 ⟨(some 53), .eqb true, [.tmp 47, .tmp 52], (some (42, false))⟩,
 ⟨(some 54), .pick, [.tmp 42, .const (.bool true), .tmp 53], none⟩,
 ⟨(some 55), .mov, [.tmp 54], none⟩,
 ⟨(some 56), .mov, [.tmp 0], (some (55, false))⟩,
 ⟨(some 57), .mov, [.tmp 5], (some (55, false))⟩,
 ⟨(some 58), .idx 5, [.tmp 56, .tmp 57], (some (55, false))⟩,
 ⟨(some 59), .faddr 4, [.tmp 58], (some (55, false))⟩,
 ⟨(some 60), .load 1 false, [.tmp 59], (some (55, false))⟩,
 ⟨(some 61), .len, [.tmp 60], (some (55, false))⟩,
 ⟨(some 62), .mov, [.tmp 1], (some (55, false))⟩,
 ⟨(some 63), .mov, [.tmp 5], (some (55, false))⟩,
 ⟨(some 64), .idx 5, [.tmp 62, .tmp 63], (some (55, false))⟩,
 ⟨(some 65), .faddr 4, [.tmp 64], (some (55, false))⟩,
 ⟨(some 66), .load 1 false, [.tmp 65], (some (55, false))⟩,
 ⟨(some 67), .len, [.tmp 66], (some (55, false))⟩,
 ⟨(some 68), .cmp .neq, [.tmp 61, .tmp 67], (some (55, false))⟩,
 ⟨(some 69), .pick, [.tmp 55, .const (.bool true), .tmp 68], none⟩] true)
 (.cond (.tmp 69)
 (.seq (.ops [
 ⟨(some 4), .mov, [.const (.bool false)], none⟩] false)
 .ret)
 .skip))
 (.seq (.ops [
 ⟨(some 6), .mov, [.const (.int .i64 0)], none⟩] false)
 (.block 2
 (.loop
 (.seq (.seq (.ops [
 ⟨(some 70), .mov, [.tmp 6], none⟩,
 ⟨(some 71), .mov, [.tmp 0], none⟩,
 ⟨(some 72), .mov, [.tmp 5], none⟩,
 ⟨(some 73), .idx 5, [.tmp 71, .tmp 72], none⟩,
 ⟨(some 74), .faddr 4, [.tmp 73], none⟩,
 ⟨(some 75), .load 1 false, [.tmp 74], none⟩,
 ⟨(some 76), .len, [.tmp 75], none⟩,
 ⟨(some 77), .cmp .lss, [.tmp 70, .tmp 76], none⟩] false)
 (.cond (.tmp 77)
 .skip
 (.exit 2)))
 (.seq (.block 3
 (.seq (.ops [
 ⟨(some 80), .mov, [.tmp 0], none⟩,
 ⟨(some 81), .mov, [.tmp 5], none⟩,
 ⟨(some 82), .idx 5, [.tmp 80, .tmp 81], none⟩,
 ⟨(some 83), .faddr 4, [.tmp 82], none⟩,
 ⟨(some 84), .load 1 false, [.tmp 83], none⟩,
 ⟨(some 85), .mov, [.tmp 6], none⟩,
 ⟨(some 86), .idx 2, [.tmp 84, .tmp 85], none⟩,
 ⟨(some 87), .load 2 true, [.tmp 86], none⟩,
 ⟨(some 88), .mov, [.tmp 1], none⟩,
 ⟨(some 89), .mov, [.tmp 5], none⟩,
 ⟨(some 90), .idx 5, [.tmp 88, .tmp 89], none⟩,
 ⟨(some 91), .faddr 4, [.tmp 90], none⟩,
 ⟨(some 92), .load 1 false, [.tmp 91], none⟩,
 ⟨(some 93), .mov, [.tmp 6], none⟩,
 ⟨(some 94), .idx 2, [.tmp 92, .tmp 93], none⟩,
 ⟨(some 95), .load 2 true, [.tmp 94], none⟩,
 ⟨(some 96), .eqa [false, false] true, [.tmp 87, .tmp 95], none⟩] true)
 (.cond (.tmp 96)
 (.seq (.ops [
 ⟨(some 4), .mov, [.const (.bool false)], none⟩] false)
 .ret)
 .skip)))
 (.ops [
 ⟨(some 78), .mov, [.tmp 6], none⟩,
 ⟨(some 79), .bin .add .i64 false, [.tmp 78, .const (.int .i64 1)], none⟩,
 ⟨(some 6), .mov, [.tmp 79], none⟩] false))))))))
 (.ops [
 ⟨(some 16), .mov, [.tmp 5], none⟩,
 ⟨(some 17), .bin .add .i64 false, [.tmp 16, .const (.int .i64 1)], none⟩,
 ⟨(some 5), .mov, [.tmp 17], none⟩] false))))))
 (.seq (.ops [
 ⟨(some 4), .mov, [.const (.bool true)], none⟩] false)
 .ret))))⟩
theorem samePLow : lowF Tryz.prog {} Tryz.f35 = some samePIr := by kernel_rfl
def samePS : Spec := spec (List Per × List Per) (fun p => [L 5 (p.1.map encP), L 5 (p.2.map encP)]) (fun p => okPs p.1) (fun p => B (decide (p.1 = p.2)))
set_option maxHeartbeats 1000000 in
theorem samePV : fnV Tryz.prog samePIr samePS := by
  intro ⟨(xs : List Per), (ys : List Per)⟩ hxx
  obtain ⟨hx0, hsh⟩ : xs.length ≤ 9223372036854775807 ∧ ∀ p ∈ xs, p.sh.length ≤ 9223372036854775807 := hxx
  have hl : (xs.map encP).length = xs.length := List.length_map ..
  have hl2 : (ys.map encP).length = ys.length := List.length_map ..
  show vc _ _ _ _ ⟨argEnv 0 [L 5 (xs.map encP), L 5 (ys.map encP)], [], 0⟩
  by_cases he : xs.length = ys.length
  · repeat' ((conv => whnf); first | (refine ⟨fun h => ?_, fun h => ?_⟩ <;> try (exfalso; first | omega | exact absurd h (by decide) | exact h rfl | exact absurd (show true = false from h) (by decide) | exact absurd (show false = true from h) (by decide))) | fail | fail)
    refine ⟨Nat, fun xq => ⟨[(0, L 5 (xs.map encP)), (1, L 5 (ys.map encP)), (5, I xq)], [], 0⟩, fun xq => xq ≤ xs.length ∧ xs.take xq = ys.take xq, fun xq => xs.length - xq, ⟨0, ?_, [], ⟨⟨rfl, rfl⟩, ⟨⟨rfl, rfl⟩, ⟨⟨rfl, rfl⟩, trivial⟩⟩⟩, trivial, rfl, rfl, rfl⟩, ?_⟩
    · (try dsimp only); exact ⟨Nat.zero_le _, by simp⟩
    rintro k hk
    obtain ⟨hk, hr⟩ : k ≤ xs.length ∧ xs.take k = ys.take k := hk
    (try dsimp only)
    by_cases hkl : k < xs.length
    · obtain ⟨x, hx⟩ := getElem_some hkl
      obtain ⟨y, hy⟩ := getElem_some (show k < ys.length by omega)
      have hsx : (x.sh.map encS).length = x.sh.length := List.length_map ..
      have hsy : (y.sh.map encS).length = y.sh.length := List.length_map ..
      have hshl : x.sh.length ≤ 9223372036854775807 := hsh _ (List.mem_of_getElem? hx)
      by_cases h1 : x.num = y.num
      · by_cases h2 : x.fr = y.fr ∧ x.to = y.to ∧ True
        · skip
          cases hcl : x.cl with
          | false =>
            cases hcy : y.cl with
            | false =>
              by_cases h4 : x.sh.length = y.sh.length
              · repeat' ((conv => whnf); first | (refine ⟨fun h => ?_, fun h => ?_⟩ <;> try (exfalso; first | omega | exact absurd h (by decide) | exact h rfl | contradiction | exact absurd (hcl.symm.trans h) (by decide) | exact absurd (hcy.symm.trans h) (by decide) | exact h (by decide))) | (refine ⟨by omega, fun r hrr => ?_⟩; first | ((have hre : r = encP x := by (first | exact get_row hrr hx | fail)); subst hre) | ((have hre : r = encP y := by (first | exact get_row hrr hy | fail)); subst hre)) | fail | fail)
                refine ⟨Nat, fun xq => ⟨[(0, L 5 (xs.map encP)), (1, L 5 (ys.map encP)), (5, I k), (6, I xq)], [], 0⟩, fun xq => xq ≤ x.sh.length ∧ x.sh.take xq = y.sh.take xq, fun xq => x.sh.length - xq, ⟨0, ?_, [], ⟨⟨rfl, rfl⟩, ⟨⟨rfl, rfl⟩, ⟨⟨rfl, rfl⟩, ⟨⟨rfl, rfl⟩, trivial⟩⟩⟩⟩, trivial, rfl, rfl, rfl⟩, ?_⟩
                · (try dsimp only); exact ⟨Nat.zero_le _, by simp⟩
                rintro j hk
                obtain ⟨hj, hq⟩ : j ≤ x.sh.length ∧ x.sh.take j = y.sh.take j := hk
                (try dsimp only)
                by_cases hjl : j < x.sh.length
                · obtain ⟨u, hu⟩ := getElem_some hjl
                  obtain ⟨v, hv⟩ := getElem_some (show j < y.sh.length by omega)
                  by_cases h5 : u.o = v.o ∧ u.a = v.a ∧ True
                  · repeat' ((conv => whnf); first | (refine ⟨fun h => ?_, fun h => ?_⟩ <;> try (exfalso; first | omega | exact absurd h (by decide) | exact h rfl | contradiction | exact absurd (hcl.symm.trans h) (by decide) | exact absurd (hcy.symm.trans h) (by decide) | exact h (by decide))) | (refine ⟨by omega, fun r hrr => ?_⟩; first | ((have hre : r = encP x := by (first | exact get_row hrr hx | fail)); subst hre) | ((have hre : r = encP y := by (first | exact get_row hrr hy | fail)); subst hre) | ((have hre : r = encS u := by (first | exact get_row hrr hu | fail)); subst hre) | ((have hre : r = encS v := by (first | exact get_row hrr hv | fail)); subst hre)) | (refine ⟨j + 1, ⟨?_, by (try dsimp only); omega⟩, [], ⟨⟨rfl, rfl⟩, ⟨⟨rfl, rfl⟩, ⟨⟨rfl, rfl⟩, ⟨⟨rfl, rfl⟩, trivial⟩⟩⟩⟩, trivial, rfl, rfl, rfl⟩; (try dsimp only); exact ⟨by omega, take_step hq hu hv (share_ext h5)⟩) | refine ⟨⟨by omega, by omega⟩, ?_⟩ | fail)
                  · repeat' ((conv => whnf); first | (refine ⟨fun h => ?_, fun h => ?_⟩ <;> try (exfalso; first | omega | exact absurd h (by decide) | exact h rfl | contradiction | exact absurd (hcl.symm.trans h) (by decide) | exact absurd (hcy.symm.trans h) (by decide) | exact h (by decide))) | (refine ⟨by omega, fun r hrr => ?_⟩; first | ((have hre : r = encP x := by (first | exact get_row hrr hx | fail)); subst hre) | ((have hre : r = encP y := by (first | exact get_row hrr hy | fail)); subst hre) | ((have hre : r = encS u := by (first | exact get_row hrr hu | fail)); subst hre) | ((have hre : r = encS v := by (first | exact get_row hrr hv | fail)); subst hre)) | fail | fail)
                    all_goals (refine ⟨[], rfl, trivial, congrArg CV.bool ?_⟩; exact (decide_eq_false (ne_at hx hy (fun e => share_ne h5 (by have := hu; rw [e, hv] at this; exact (Option.some.inj this).symm)))).symm)
                · have hsh' : x.sh = y.sh := take_all hq (by omega) (by omega)
                  have hxy : x = y := head_eq ⟨h1, h2, hcl.trans hcy.symm, h4⟩ hsh'
                  repeat' ((conv => whnf); first | (refine ⟨fun h => ?_, fun h => ?_⟩ <;> try (exfalso; first | omega | exact absurd h (by decide) | exact h rfl | contradiction | exact absurd (hcl.symm.trans h) (by decide) | exact absurd (hcy.symm.trans h) (by decide) | exact h (by decide))) | (refine ⟨by omega, fun r hrr => ?_⟩; first | ((have hre : r = encP x := by (first | exact get_row hrr hx | fail)); subst hre) | ((have hre : r = encP y := by (first | exact get_row hrr hy | fail)); subst hre) | ((have hre : r = encS u := by (first | exact get_row hrr hu | fail)); subst hre) | ((have hre : r = encS v := by (first | exact get_row hrr hv | fail)); subst hre)) | (refine ⟨k + 1, ⟨?_, by (try dsimp only); omega⟩, [], ⟨⟨rfl, rfl⟩, ⟨⟨rfl, rfl⟩, ⟨⟨rfl, rfl⟩, trivial⟩⟩⟩, trivial, rfl, rfl, rfl⟩; (try dsimp only); exact ⟨by omega, take_step hr hx hy hxy⟩) | refine ⟨⟨by omega, by omega⟩, ?_⟩ | fail)
              · repeat' ((conv => whnf); first | (refine ⟨fun h => ?_, fun h => ?_⟩ <;> try (exfalso; first | omega | exact absurd h (by decide) | exact h rfl | contradiction | exact absurd (hcl.symm.trans h) (by decide) | exact absurd (hcy.symm.trans h) (by decide) | exact h (by decide))) | (refine ⟨by omega, fun r hrr => ?_⟩; first | ((have hre : r = encP x := by (first | exact get_row hrr hx | fail)); subst hre) | ((have hre : r = encP y := by (first | exact get_row hrr hy | fail)); subst hre)) | fail | fail)
                all_goals (refine ⟨[], rfl, trivial, congrArg CV.bool ?_⟩; exact (decide_eq_false (ne_at hx hy (fun e => h4 (by rw [e])))).symm)
            | true =>
              repeat' ((conv => whnf); first | (refine ⟨fun h => ?_, fun h => ?_⟩ <;> try (exfalso; first | omega | exact absurd h (by decide) | exact h rfl | contradiction | exact absurd (hcl.symm.trans h) (by decide) | exact absurd (hcy.symm.trans h) (by decide) | exact h (by decide))) | (refine ⟨by omega, fun r hrr => ?_⟩; first | ((have hre : r = encP x := by (first | exact get_row hrr hx | fail)); subst hre) | ((have hre : r = encP y := by (first | exact get_row hrr hy | fail)); subst hre)) | fail | fail)
              all_goals (refine ⟨[], rfl, trivial, congrArg CV.bool ?_⟩; exact (decide_eq_false (ne_at hx hy (fun e => absurd (hcl.symm.trans ((congrArg Per.cl e).trans hcy)) (by decide)))).symm)
          | true =>
            cases hcy : y.cl with
            | false =>
              repeat' ((conv => whnf); first | (refine ⟨fun h => ?_, fun h => ?_⟩ <;> try (exfalso; first | omega | exact absurd h (by decide) | exact h rfl | contradiction | exact absurd (hcl.symm.trans h) (by decide) | exact absurd (hcy.symm.trans h) (by decide) | exact h (by decide))) | (refine ⟨by omega, fun r hrr => ?_⟩; first | ((have hre : r = encP x := by (first | exact get_row hrr hx | fail)); subst hre) | ((have hre : r = encP y := by (first | exact get_row hrr hy | fail)); subst hre)) | fail | fail)
              all_goals (refine ⟨[], rfl, trivial, congrArg CV.bool ?_⟩; exact (decide_eq_false (ne_at hx hy (fun e => absurd (hcl.symm.trans ((congrArg Per.cl e).trans hcy)) (by decide)))).symm)
            | true =>
              by_cases h4 : x.sh.length = y.sh.length
              · repeat' ((conv => whnf); first | (refine ⟨fun h => ?_, fun h => ?_⟩ <;> try (exfalso; first | omega | exact absurd h (by decide) | exact h rfl | contradiction | exact absurd (hcl.symm.trans h) (by decide) | exact absurd (hcy.symm.trans h) (by decide) | exact h (by decide))) | (refine ⟨by omega, fun r hrr => ?_⟩; first | ((have hre : r = encP x := by (first | exact get_row hrr hx | fail)); subst hre) | ((have hre : r = encP y := by (first | exact get_row hrr hy | fail)); subst hre)) | fail | fail)
                refine ⟨Nat, fun xq => ⟨[(0, L 5 (xs.map encP)), (1, L 5 (ys.map encP)), (5, I k), (6, I xq)], [], 0⟩, fun xq => xq ≤ x.sh.length ∧ x.sh.take xq = y.sh.take xq, fun xq => x.sh.length - xq, ⟨0, ?_, [], ⟨⟨rfl, rfl⟩, ⟨⟨rfl, rfl⟩, ⟨⟨rfl, rfl⟩, ⟨⟨rfl, rfl⟩, trivial⟩⟩⟩⟩, trivial, rfl, rfl, rfl⟩, ?_⟩
                · (try dsimp only); exact ⟨Nat.zero_le _, by simp⟩
                rintro j hk
                obtain ⟨hj, hq⟩ : j ≤ x.sh.length ∧ x.sh.take j = y.sh.take j := hk
                (try dsimp only)
                by_cases hjl : j < x.sh.length
                · obtain ⟨u, hu⟩ := getElem_some hjl
                  obtain ⟨v, hv⟩ := getElem_some (show j < y.sh.length by omega)
                  by_cases h5 : u.o = v.o ∧ u.a = v.a ∧ True
                  · repeat' ((conv => whnf); first | (refine ⟨fun h => ?_, fun h => ?_⟩ <;> try (exfalso; first | omega | exact absurd h (by decide) | exact h rfl | contradiction | exact absurd (hcl.symm.trans h) (by decide) | exact absurd (hcy.symm.trans h) (by decide) | exact h (by decide))) | (refine ⟨by omega, fun r hrr => ?_⟩; first | ((have hre : r = encP x := by (first | exact get_row hrr hx | fail)); subst hre) | ((have hre : r = encP y := by (first | exact get_row hrr hy | fail)); subst hre) | ((have hre : r = encS u := by (first | exact get_row hrr hu | fail)); subst hre) | ((have hre : r = encS v := by (first | exact get_row hrr hv | fail)); subst hre)) | (refine ⟨j + 1, ⟨?_, by (try dsimp only); omega⟩, [], ⟨⟨rfl, rfl⟩, ⟨⟨rfl, rfl⟩, ⟨⟨rfl, rfl⟩, ⟨⟨rfl, rfl⟩, trivial⟩⟩⟩⟩, trivial, rfl, rfl, rfl⟩; (try dsimp only); exact ⟨by omega, take_step hq hu hv (share_ext h5)⟩) | refine ⟨⟨by omega, by omega⟩, ?_⟩ | fail)
                  · repeat' ((conv => whnf); first | (refine ⟨fun h => ?_, fun h => ?_⟩ <;> try (exfalso; first | omega | exact absurd h (by decide) | exact h rfl | contradiction | exact absurd (hcl.symm.trans h) (by decide) | exact absurd (hcy.symm.trans h) (by decide) | exact h (by decide))) | (refine ⟨by omega, fun r hrr => ?_⟩; first | ((have hre : r = encP x := by (first | exact get_row hrr hx | fail)); subst hre) | ((have hre : r = encP y := by (first | exact get_row hrr hy | fail)); subst hre) | ((have hre : r = encS u := by (first | exact get_row hrr hu | fail)); subst hre) | ((have hre : r = encS v := by (first | exact get_row hrr hv | fail)); subst hre)) | fail | fail)
                    all_goals (refine ⟨[], rfl, trivial, congrArg CV.bool ?_⟩; exact (decide_eq_false (ne_at hx hy (fun e => share_ne h5 (by have := hu; rw [e, hv] at this; exact (Option.some.inj this).symm)))).symm)
                · have hsh' : x.sh = y.sh := take_all hq (by omega) (by omega)
                  have hxy : x = y := head_eq ⟨h1, h2, hcl.trans hcy.symm, h4⟩ hsh'
                  repeat' ((conv => whnf); first | (refine ⟨fun h => ?_, fun h => ?_⟩ <;> try (exfalso; first | omega | exact absurd h (by decide) | exact h rfl | contradiction | exact absurd (hcl.symm.trans h) (by decide) | exact absurd (hcy.symm.trans h) (by decide) | exact h (by decide))) | (refine ⟨by omega, fun r hrr => ?_⟩; first | ((have hre : r = encP x := by (first | exact get_row hrr hx | fail)); subst hre) | ((have hre : r = encP y := by (first | exact get_row hrr hy | fail)); subst hre) | ((have hre : r = encS u := by (first | exact get_row hrr hu | fail)); subst hre) | ((have hre : r = encS v := by (first | exact get_row hrr hv | fail)); subst hre)) | (refine ⟨k + 1, ⟨?_, by (try dsimp only); omega⟩, [], ⟨⟨rfl, rfl⟩, ⟨⟨rfl, rfl⟩, ⟨⟨rfl, rfl⟩, trivial⟩⟩⟩, trivial, rfl, rfl, rfl⟩; (try dsimp only); exact ⟨by omega, take_step hr hx hy hxy⟩) | refine ⟨⟨by omega, by omega⟩, ?_⟩ | fail)
              · repeat' ((conv => whnf); first | (refine ⟨fun h => ?_, fun h => ?_⟩ <;> try (exfalso; first | omega | exact absurd h (by decide) | exact h rfl | contradiction | exact absurd (hcl.symm.trans h) (by decide) | exact absurd (hcy.symm.trans h) (by decide) | exact h (by decide))) | (refine ⟨by omega, fun r hrr => ?_⟩; first | ((have hre : r = encP x := by (first | exact get_row hrr hx | fail)); subst hre) | ((have hre : r = encP y := by (first | exact get_row hrr hy | fail)); subst hre)) | fail | fail)
                all_goals (refine ⟨[], rfl, trivial, congrArg CV.bool ?_⟩; exact (decide_eq_false (ne_at hx hy (fun e => h4 (by rw [e])))).symm)
        · repeat' ((conv => whnf); first | (refine ⟨fun h => ?_, fun h => ?_⟩ <;> try (exfalso; first | omega | exact absurd h (by decide) | exact h rfl | contradiction | exact h (by decide))) | (refine ⟨by omega, fun r hrr => ?_⟩; first | ((have hre : r = encP x := by (first | exact get_row hrr hx | fail)); subst hre) | ((have hre : r = encP y := by (first | exact get_row hrr hy | fail)); subst hre)) | fail | fail)
          all_goals (refine ⟨[], rfl, trivial, congrArg CV.bool ?_⟩; exact (decide_eq_false (ne_at hx hy (fun e => h2 ⟨by rw [e], by rw [e], trivial⟩))).symm)
      · repeat' ((conv => whnf); first | (refine ⟨fun h => ?_, fun h => ?_⟩ <;> try (exfalso; first | omega | exact absurd h (by decide) | exact h rfl | contradiction | exact h (by decide))) | (refine ⟨by omega, fun r hrr => ?_⟩; first | ((have hre : r = encP x := by (first | exact get_row hrr hx | fail)); subst hre) | ((have hre : r = encP y := by (first | exact get_row hrr hy | fail)); subst hre)) | fail | fail)
        all_goals (refine ⟨[], rfl, trivial, congrArg CV.bool ?_⟩; exact (decide_eq_false (ne_at hx hy (fun e => h1 (by rw [e])))).symm)
    · repeat' ((conv => whnf); first | (refine ⟨fun h => ?_, fun h => ?_⟩ <;> try (exfalso; first | omega | exact absurd h (by decide) | exact h rfl | exact absurd (show true = false from h) (by decide) | exact absurd (show false = true from h) (by decide))) | fail | fail)
      all_goals (refine ⟨[], rfl, trivial, congrArg CV.bool ?_⟩; exact (decide_eq_true (take_all hr (by omega) (by omega))).symm)
  · repeat' ((conv => whnf); first | (refine ⟨fun h => ?_, fun h => ?_⟩ <;> try (exfalso; first | omega | exact absurd h (by decide) | exact h rfl | exact absurd (show true = false from h) (by decide) | exact absurd (show false = true from h) (by decide))) | fail | fail)
    all_goals (refine ⟨[], rfl, trivial, congrArg CV.bool ?_⟩; exact (decide_eq_false fun e : xs = ys => he (by rw [e])).symm)
theorem sameP_h : Holds Tryz.prog 35 samePS := holds_of mix Tryz.func35 samePLow (fun _ => rfl) samePV
theorem okB_ps {b : Bk} (h : okB b) : okPs b.ps := ⟨h.1.1, h.2.2⟩
theorem bk_ext {a b : Bk} (h1 : a.ps = b.ps) (h2 : a.po = b.po) (h3 : a.rs = b.rs) : a = b := by cases a; cases b; simp_all
/-- Few periods, shares, postings and rides. -/
def FewB (b : Bk) : Prop := (b.ps.length ≤ 70 ∧ b.po.length ≤ 100 ∧ b.rs.length ≤ 100) ∧ ∀ p ∈ b.ps, p.sh.length ≤ 10
instance (b : Bk) : Decidable (FewB b) := by unfold FewB; infer_instance

/-! skiarea/skiarearef38.Same -/
def sameIr : IFn := ⟨24, [.tmp 4],
 (.seq (.ops [
 ⟨(some 2), .box, [.tmp 0], none⟩,
 ⟨(some 3), .box, [.tmp 1], none⟩,
 ⟨(some 4), .mov, [.const (.bool false)], none⟩] false)
 (.seq (.ops [
 ⟨(some 5), .faddr 0, [.tmp 2], none⟩,
 ⟨(some 6), .load 1 false, [.tmp 5], none⟩,
 ⟨(some 7), .faddr 0, [.tmp 3], none⟩,
 ⟨(some 8), .load 1 false, [.tmp 7], none⟩,
 ⟨(some 9), .call 35, [.tmp 6, .tmp 8], none⟩,
 ⟨(some 10), .mov, [.tmp 9], none⟩,
 ⟨(some 11), .faddr 1, [.tmp 2], (some (10, true))⟩,
 ⟨(some 12), .load 1 false, [.tmp 11], (some (10, true))⟩,
 ⟨(some 13), .faddr 1, [.tmp 3], (some (10, true))⟩,
 ⟨(some 14), .load 1 false, [.tmp 13], (some (10, true))⟩,
 ⟨(some 15), .call 37, [.tmp 12, .tmp 14], (some (10, true))⟩,
 ⟨(some 16), .pick, [.tmp 10, .tmp 15, .const (.bool false)], none⟩,
 ⟨(some 17), .mov, [.tmp 16], none⟩,
 ⟨(some 18), .faddr 2, [.tmp 2], (some (17, true))⟩,
 ⟨(some 19), .load 1 false, [.tmp 18], (some (17, true))⟩,
 ⟨(some 20), .faddr 2, [.tmp 3], (some (17, true))⟩,
 ⟨(some 21), .load 1 false, [.tmp 20], (some (17, true))⟩,
 ⟨(some 22), .call 36, [.tmp 19, .tmp 21], (some (17, true))⟩,
 ⟨(some 23), .pick, [.tmp 17, .tmp 22, .const (.bool false)], none⟩,
 ⟨(some 4), .mov, [.tmp 23], none⟩] false)
 .ret))⟩
theorem sameLow : lowF Tryz.prog {} Tryz.f17 = some sameIr := by kernel_rfl
def sameS : Spec := spec (Bk × Bk) (fun p => [aB p.1, aB p.2]) (fun p => okB p.1) (fun p => B (decide (p.1 = p.2)))
theorem sameV : fnV Tryz.prog sameIr sameS := by
  intro ⟨(a : Bk), (b : Bk)⟩ ha
  replace ha : okB a := ha
  show vc _ _ _ _ ⟨argEnv 0 [aB a, aB b], [], 0⟩
  cases d1 : decide (a.ps = b.ps) with
  | false =>
    repeat' ((conv => whnf); first | (refine ⟨fun h => ?_, fun h => ?_⟩ <;> try (exfalso; first | omega | exact absurd h (by decide) | exact h rfl | exact absurd (show true = false from h) (by decide) | exact absurd (show false = true from h) (by decide))) | (refine ⟨_, sameP_h, (a.ps, b.ps), (okB_ps ha), leVs_of_eq rfl, .inl rfl, rfl, ?_⟩; show norm (B (decide (a.ps = b.ps))) _; rw [d1]) | fail | fail)
    all_goals (refine ⟨[], rfl, trivial, congrArg CV.bool ?_⟩; exact (decide_eq_false fun e : a = b => of_decide_eq_false d1 (by rw [e])).symm)
  | true =>
  cases d2 : decide (a.po = b.po) with
  | false =>
    repeat' ((conv => whnf); first | (refine ⟨fun h => ?_, fun h => ?_⟩ <;> try (exfalso; first | omega | exact absurd h (by decide) | exact h rfl | exact absurd (show true = false from h) (by decide) | exact absurd (show false = true from h) (by decide))) | (refine ⟨_, sameP_h, (a.ps, b.ps), (okB_ps ha), leVs_of_eq rfl, .inl rfl, rfl, ?_⟩; show norm (B (decide (a.ps = b.ps))) _; rw [d1]) | (refine ⟨_, sameO_h, (a.po, b.po), ha.1.2, leVs_of_eq rfl, .inl rfl, rfl, ?_⟩; show norm (B (decide (a.po = b.po))) _; rw [d2]) | fail | fail)
    all_goals (refine ⟨[], rfl, trivial, congrArg CV.bool ?_⟩; exact (decide_eq_false fun e : a = b => of_decide_eq_false d2 (by rw [e])).symm)
  | true =>
  cases d3 : decide (a.rs = b.rs) with
  | false =>
    repeat' ((conv => whnf); first | (refine ⟨fun h => ?_, fun h => ?_⟩ <;> try (exfalso; first | omega | exact absurd h (by decide) | exact h rfl | exact absurd (show true = false from h) (by decide) | exact absurd (show false = true from h) (by decide))) | (refine ⟨_, sameP_h, (a.ps, b.ps), (okB_ps ha), leVs_of_eq rfl, .inl rfl, rfl, ?_⟩; show norm (B (decide (a.ps = b.ps))) _; rw [d1]) | (refine ⟨_, sameO_h, (a.po, b.po), ha.1.2, leVs_of_eq rfl, .inl rfl, rfl, ?_⟩; show norm (B (decide (a.po = b.po))) _; rw [d2]) | (refine ⟨_, sameC_h, (a.rs, b.rs), ha.2.1, leVs_of_eq rfl, .inl rfl, rfl, ?_⟩; show norm (B (decide (a.rs = b.rs))) _; rw [d3]) | fail | fail)
    all_goals (refine ⟨[], rfl, trivial, congrArg CV.bool ?_⟩; exact (decide_eq_false fun e : a = b => of_decide_eq_false d3 (by rw [e])).symm)
  | true =>
    repeat' ((conv => whnf); first | (refine ⟨fun h => ?_, fun h => ?_⟩ <;> try (exfalso; first | omega | exact absurd h (by decide) | exact h rfl | exact absurd (show true = false from h) (by decide) | exact absurd (show false = true from h) (by decide))) | (refine ⟨_, sameP_h, (a.ps, b.ps), (okB_ps ha), leVs_of_eq rfl, .inl rfl, rfl, ?_⟩; show norm (B (decide (a.ps = b.ps))) _; rw [d1]) | (refine ⟨_, sameO_h, (a.po, b.po), ha.1.2, leVs_of_eq rfl, .inl rfl, rfl, ?_⟩; show norm (B (decide (a.po = b.po))) _; rw [d2]) | (refine ⟨_, sameC_h, (a.rs, b.rs), ha.2.1, leVs_of_eq rfl, .inl rfl, rfl, ?_⟩; show norm (B (decide (a.rs = b.rs))) _; rw [d3]) | fail | fail)
    all_goals (refine ⟨[], rfl, trivial, congrArg CV.bool ?_⟩; exact (decide_eq_true (bk_ext (of_decide_eq_true d1) (of_decide_eq_true d2) (of_decide_eq_true d3))).symm)
theorem same_h : Holds Tryz.prog 17 sameS := holds_of mix Tryz.func17 sameLow (fun _ => rfl) sameV

/-! skiarea/skiarearef38.Few -/
def fewIr : IFn := ⟨35, [.tmp 2],
 (.seq (.ops [
 ⟨(some 1), .box, [.tmp 0], none⟩,
 ⟨(some 2), .mov, [.const (.bool false)], none⟩] false)
 (.seq (.seq (.ops [
 ⟨(some 4), .faddr 0, [.tmp 1], none⟩,
 ⟨(some 5), .load 1 false, [.tmp 4], none⟩,
 ⟨(some 6), .len, [.tmp 5], none⟩,
 ⟨(some 7), .cmp .gtr, [.tmp 6, .const (.int .i64 70)], none⟩,
 ⟨(some 8), .mov, [.tmp 7], none⟩,
 ⟨(some 9), .faddr 1, [.tmp 1], (some (8, false))⟩,
 ⟨(some 10), .load 1 false, [.tmp 9], (some (8, false))⟩,
 ⟨(some 11), .len, [.tmp 10], (some (8, false))⟩,
 ⟨(some 12), .cmp .gtr, [.tmp 11, .const (.int .i64 100)], (some (8, false))⟩,
 ⟨(some 13), .pick, [.tmp 8, .const (.bool true), .tmp 12], none⟩,
 ⟨(some 14), .mov, [.tmp 13], none⟩,
 ⟨(some 15), .faddr 2, [.tmp 1], (some (14, false))⟩,
 ⟨(some 16), .load 1 false, [.tmp 15], (some (14, false))⟩,
 ⟨(some 17), .len, [.tmp 16], (some (14, false))⟩,
 ⟨(some 18), .cmp .gtr, [.tmp 17, .const (.int .i64 100)], (some (14, false))⟩,
 ⟨(some 19), .pick, [.tmp 14, .const (.bool true), .tmp 18], none⟩] false)
 (.cond (.tmp 19)
 (.seq (.ops [
 ⟨(some 2), .mov, [.const (.bool false)], none⟩] false)
 .ret)
 .skip))
 (.seq (.seq (.ops [
 ⟨(some 3), .mov, [.const (.int .i64 0)], none⟩] false)
 (.block 0
 (.loop
 (.seq (.seq (.ops [
 ⟨(some 20), .mov, [.tmp 3], none⟩,
 ⟨(some 21), .faddr 0, [.tmp 1], none⟩,
 ⟨(some 22), .load 1 false, [.tmp 21], none⟩,
 ⟨(some 23), .len, [.tmp 22], none⟩,
 ⟨(some 24), .cmp .lss, [.tmp 20, .tmp 23], none⟩] false)
 (.cond (.tmp 24)
 .skip
 (.exit 0)))
 (.seq (.block 1
 (.seq (.ops [
 ⟨(some 27), .faddr 0, [.tmp 1], none⟩,
 ⟨(some 28), .load 1 false, [.tmp 27], none⟩,
 ⟨(some 29), .mov, [.tmp 3], none⟩,
 ⟨(some 30), .idx 5, [.tmp 28, .tmp 29], none⟩,
 ⟨(some 31), .faddr 4, [.tmp 30], none⟩,
 ⟨(some 32), .load 1 false, [.tmp 31], none⟩,
 ⟨(some 33), .len, [.tmp 32], none⟩,
 ⟨(some 34), .cmp .gtr, [.tmp 33, .const (.int .i64 10)], none⟩] false)
 (.cond (.tmp 34)
 (.seq (.ops [
 ⟨(some 2), .mov, [.const (.bool false)], none⟩] false)
 .ret)
 .skip)))
 (.ops [
 ⟨(some 25), .mov, [.tmp 3], none⟩,
 ⟨(some 26), .bin .add .i64 false, [.tmp 25, .const (.int .i64 1)], none⟩,
 ⟨(some 3), .mov, [.tmp 26], none⟩] false))))))
 (.seq (.ops [
 ⟨(some 2), .mov, [.const (.bool true)], none⟩] false)
 .ret))))⟩
theorem fewLow : lowF Tryz.prog {} Tryz.f12 = some fewIr := by kernel_rfl
def fewS : Spec := spec Bk (fun b => [aB b]) okB (fun b => B (decide (FewB b)))
theorem fewV : fnV Tryz.prog fewIr fewS := by
  intro (b : Bk) hb
  obtain ⟨⟨hb1, hb2⟩, hb3, hb4⟩ := hb
  have hlp : (b.ps.map encP).length = b.ps.length := List.length_map ..
  have hlo : (b.po.map encO).length = b.po.length := List.length_map ..
  have hlr : (b.rs.map encC).length = b.rs.length := List.length_map ..
  show vc _ _ _ _ ⟨argEnv 0 [aB b], [], 0⟩
  by_cases h1 : b.ps.length ≤ 70 ∧ b.po.length ≤ 100 ∧ b.rs.length ≤ 100
  · repeat' ((conv => whnf); first | (refine ⟨fun h => ?_, fun h => ?_⟩ <;> try (exfalso; first | omega | exact absurd h (by decide) | exact h rfl | exact absurd (show true = false from h) (by decide) | exact absurd (show false = true from h) (by decide))) | fail | fail)
    refine ⟨Nat, fun xq => ⟨[(1, .bp 0 0), (3, I xq)], [(0, bB' b)], 1⟩, fun xq => xq ≤ b.ps.length ∧ ∀ p ∈ b.ps.take xq, p.sh.length ≤ 10, fun xq => b.ps.length - xq, ⟨0, ?_, [], ⟨⟨rfl, rfl⟩, ⟨⟨rfl, rfl⟩, trivial⟩⟩, ⟨⟨rfl, rfl, rfl⟩, trivial⟩, rfl, rfl, rfl⟩, ?_⟩
    · (try dsimp only); exact ⟨Nat.zero_le _, by simp⟩
    rintro k hk
    obtain ⟨hk, hn⟩ : k ≤ b.ps.length ∧ ∀ p ∈ b.ps.take k, p.sh.length ≤ 10 := hk
    (try dsimp only)
    by_cases hkl : k < b.ps.length
    · obtain ⟨x, hx⟩ := getElem_some hkl
      have hsx : (x.sh.map encS).length = x.sh.length := List.length_map ..
      by_cases h2 : x.sh.length ≤ 10
      · repeat' ((conv => whnf); first | (refine ⟨fun h => ?_, fun h => ?_⟩ <;> try (exfalso; first | omega | exact absurd h (by decide) | exact h rfl | exact absurd (show true = false from h) (by decide) | exact absurd (show false = true from h) (by decide))) | (refine ⟨by omega, fun r hrr => ?_⟩; first | ((have hre : r = encP x := by (first | exact get_row hrr hx | fail)); subst hre)) | (refine ⟨k + 1, ⟨?_, by (try dsimp only); omega⟩, [], ⟨⟨rfl, rfl⟩, ⟨⟨rfl, rfl⟩, trivial⟩⟩, ⟨⟨rfl, rfl, rfl⟩, trivial⟩, rfl, rfl, rfl⟩; (try dsimp only); exact ⟨by omega, all_step hx hn h2⟩) | refine ⟨⟨by omega, by omega⟩, ?_⟩ | fail)
      · repeat' ((conv => whnf); first | (refine ⟨fun h => ?_, fun h => ?_⟩ <;> try (exfalso; first | omega | exact absurd h (by decide) | exact h rfl | exact absurd (show true = false from h) (by decide) | exact absurd (show false = true from h) (by decide))) | (refine ⟨by omega, fun r hrr => ?_⟩; first | ((have hre : r = encP x := by (first | exact get_row hrr hx | fail)); subst hre)) | fail | fail)
        all_goals (refine ⟨[], rfl, trivial, congrArg CV.bool ?_⟩; exact (decide_eq_false fun h : FewB b => h2 (h.2 x (List.mem_of_getElem? hx))).symm)
    · rw [take_end hkl] at hn
      repeat' ((conv => whnf); first | (refine ⟨fun h => ?_, fun h => ?_⟩ <;> try (exfalso; first | omega | exact absurd h (by decide) | exact h rfl | exact absurd (show true = false from h) (by decide) | exact absurd (show false = true from h) (by decide))) | fail | fail)
      all_goals (refine ⟨[], rfl, trivial, congrArg CV.bool ?_⟩; exact (decide_eq_true ⟨h1, hn⟩).symm)
  · repeat' ((conv => whnf); first | (refine ⟨fun h => ?_, fun h => ?_⟩ <;> try (exfalso; first | omega | exact absurd h (by decide) | exact h rfl | exact absurd (show true = false from h) (by decide) | exact absurd (show false = true from h) (by decide))) | fail | fail)
    all_goals (refine ⟨[], rfl, trivial, congrArg CV.bool ?_⟩; exact (decide_eq_false fun h : FewB b => h1 h.1).symm)
theorem few_h : Holds Tryz.prog 12 fewS := holds_of mix Tryz.func12 fewLow (fun _ => rfl) fewV

/-! slices.Clone[[]skiarea/api.Period,skiarea/api.Period] -/
def clonePIr : IFn := ⟨8, [.tmp 2],
 (.seq (.ops [
 ⟨(some 2), .nilOwn 76 5, [], none⟩] false)
 (.seq (.seq (.ops [
 ⟨(some 3), .mov, [.tmp 0], none⟩,
 ⟨(some 4), .isnil false, [.tmp 3], none⟩] false)
 (.cond (.tmp 4)
 (.seq (.ops [
 ⟨(some 2), .nilOwn 76 5, [], none⟩] false)
 .ret)
 .skip))
 (.seq (.ops [
 ⟨(some 5), .buildOwn 76 5, [], none⟩,
 ⟨(some 6), .mov, [.tmp 0], none⟩,
 ⟨(some 7), .append 76 5 56, [.tmp 5, .tmp 6], none⟩,
 ⟨(some 2), .mov, [.tmp 7], none⟩] false)
 .ret)))⟩
theorem clonePLow : lowF Tryz.prog { owns := [(2, 76), (5, 76)] } Tryz.f81 = some clonePIr := by kernel_rfl
def clonePS : Spec := ⟨List Per, fun l => [L 5 (l.map encP)], fun l => l.length ≤ 1000000, fun _ => .osl 0, fun l => [.row 76 5 (l.map encP)]⟩
theorem clonePV : fnV Tryz.prog clonePIr clonePS := by
  intro (xs : List Per) (hx : xs.length ≤ 1000000)
  have hl : (xs.map encP).length = xs.length := List.length_map ..
  conv => whnf
  refine ⟨fun h => ?_, ?_⟩
  · conv => whnf
    refine ⟨[1], rfl, ⟨⟨?_, _, _, _, rfl⟩, trivial⟩, ?_⟩
    · show some (Ob.row 76 5 []) = some (Ob.row 76 5 (xs.map encP))
      rw [h]
    · rfl
  · conv => whnf
    refine ⟨⟨by simp; omega, by simp; omega⟩, ?_⟩
    conv => whnf
    exact ⟨[2], rfl, ⟨⟨rfl, _, _, _, rfl⟩, trivial⟩, rfl⟩
theorem cloneP_h : Holds Tryz.prog 81 clonePS := holds_of mix Tryz.func81 clonePLow (fun _ => rfl) clonePV

/-! slices.Clone[[]skiarea/api.Posting,skiarea/api.Posting] -/
def cloneOIr : IFn := ⟨8, [.tmp 2],
 (.seq (.ops [
 ⟨(some 2), .nilOwn 72 4, [], none⟩] false)
 (.seq (.seq (.ops [
 ⟨(some 3), .mov, [.tmp 0], none⟩,
 ⟨(some 4), .isnil false, [.tmp 3], none⟩] false)
 (.cond (.tmp 4)
 (.seq (.ops [
 ⟨(some 2), .nilOwn 72 4, [], none⟩] false)
 .ret)
 .skip))
 (.seq (.ops [
 ⟨(some 5), .buildOwn 72 4, [], none⟩,
 ⟨(some 6), .mov, [.tmp 0], none⟩,
 ⟨(some 7), .append 72 4 32, [.tmp 5, .tmp 6], none⟩,
 ⟨(some 2), .mov, [.tmp 7], none⟩] false)
 .ret)))⟩
theorem cloneOLow : lowF Tryz.prog { owns := [(2, 72), (5, 72)] } Tryz.f82 = some cloneOIr := by kernel_rfl
def cloneOS : Spec := ⟨List Pst, fun l => [L 4 (l.map encO)], fun l => l.length ≤ 1000000, fun _ => .osl 0, fun l => [.row 72 4 (l.map encO)]⟩
theorem cloneOV : fnV Tryz.prog cloneOIr cloneOS := by
  intro (xs : List Pst) (hx : xs.length ≤ 1000000)
  have hl : (xs.map encO).length = xs.length := List.length_map ..
  conv => whnf
  refine ⟨fun h => ?_, ?_⟩
  · conv => whnf
    refine ⟨[1], rfl, ⟨⟨?_, _, _, _, rfl⟩, trivial⟩, ?_⟩
    · show some (Ob.row 72 4 []) = some (Ob.row 72 4 (xs.map encO))
      rw [h]
    · rfl
  · conv => whnf
    refine ⟨⟨by simp; omega, by simp; omega⟩, ?_⟩
    conv => whnf
    exact ⟨[2], rfl, ⟨⟨rfl, _, _, _, rfl⟩, trivial⟩, rfl⟩
theorem cloneO_h : Holds Tryz.prog 82 cloneOS := holds_of mix Tryz.func82 cloneOLow (fun _ => rfl) cloneOV

/-! slices.Clone[[]skiarea/api.Counted,skiarea/api.Counted] -/
def cloneRIr : IFn := ⟨8, [.tmp 2],
 (.seq (.ops [
 ⟨(some 2), .nilOwn 80 8, [], none⟩] false)
 (.seq (.seq (.ops [
 ⟨(some 3), .mov, [.tmp 0], none⟩,
 ⟨(some 4), .isnil false, [.tmp 3], none⟩] false)
 (.cond (.tmp 4)
 (.seq (.ops [
 ⟨(some 2), .nilOwn 80 8, [], none⟩] false)
 .ret)
 .skip))
 (.seq (.ops [
 ⟨(some 5), .buildOwn 80 8, [], none⟩,
 ⟨(some 6), .mov, [.tmp 0], none⟩,
 ⟨(some 7), .append 80 8 64, [.tmp 5, .tmp 6], none⟩,
 ⟨(some 2), .mov, [.tmp 7], none⟩] false)
 .ret)))⟩
theorem cloneRLow : lowF Tryz.prog { owns := [(2, 80), (5, 80)] } Tryz.f83 = some cloneRIr := by kernel_rfl
def cloneRS : Spec := ⟨List Cnt, fun l => [L 8 (l.map encC)], fun l => l.length ≤ 1000000, fun _ => .osl 0, fun l => [.row 80 8 (l.map encC)]⟩
theorem cloneRV : fnV Tryz.prog cloneRIr cloneRS := by
  intro (xs : List Cnt) (hx : xs.length ≤ 1000000)
  have hl : (xs.map encC).length = xs.length := List.length_map ..
  conv => whnf
  refine ⟨fun h => ?_, ?_⟩
  · conv => whnf
    refine ⟨[1], rfl, ⟨⟨?_, _, _, _, rfl⟩, trivial⟩, ?_⟩
    · show some (Ob.row 80 8 []) = some (Ob.row 80 8 (xs.map encC))
      rw [h]
    · rfl
  · conv => whnf
    refine ⟨⟨by simp; omega, by simp; omega⟩, ?_⟩
    conv => whnf
    exact ⟨[2], rfl, ⟨⟨rfl, _, _, _, rfl⟩, trivial⟩, rfl⟩
theorem cloneR_h : Holds Tryz.prog 83 cloneRS := holds_of mix Tryz.func83 cloneRLow (fun _ => rfl) cloneRV

/-! slices.Clone[[]skiarea/api.Share,skiarea/api.Share] -/
def cloneSIr : IFn := ⟨8, [.tmp 2],
 (.seq (.ops [
 ⟨(some 2), .nilOwn 58 2, [], none⟩] false)
 (.seq (.seq (.ops [
 ⟨(some 3), .mov, [.tmp 0], none⟩,
 ⟨(some 4), .isnil false, [.tmp 3], none⟩] false)
 (.cond (.tmp 4)
 (.seq (.ops [
 ⟨(some 2), .nilOwn 58 2, [], none⟩] false)
 .ret)
 .skip))
 (.seq (.ops [
 ⟨(some 5), .buildOwn 58 2, [], none⟩,
 ⟨(some 6), .mov, [.tmp 0], none⟩,
 ⟨(some 7), .append 58 2 16, [.tmp 5, .tmp 6], none⟩,
 ⟨(some 2), .mov, [.tmp 7], none⟩] false)
 .ret)))⟩
theorem cloneSLow : lowF Tryz.prog { owns := [(2, 58), (5, 58)] } Tryz.f66 = some cloneSIr := by kernel_rfl
def cloneSS : Spec := spec (List Share) (fun l => [L 2 (l.map encS)]) (fun l => l.length ≤ 1000000) (fun l => L 2 (l.map encS))
theorem cloneSV : fnV Tryz.prog cloneSIr cloneSS := by
  intro (xs : List Share) (hx : xs.length ≤ 1000000)
  have hl : (xs.map encS).length = xs.length := List.length_map ..
  conv => whnf
  refine ⟨fun h => ?_, ?_⟩
  · conv => whnf
    refine ⟨[], rfl, trivial, ?_⟩
    show leV (L 2 []) (L 2 (xs.map encS))
    rw [h]
    exact leV_refl _
  · conv => whnf
    refine ⟨⟨by simp; omega, by simp; omega⟩, ?_⟩
    conv => whnf
    refine ⟨[], rfl, trivial, ?_⟩
    show leV (L 2 (xs.map encS)) (L 2 (xs.map encS))
    exact leV_refl _
theorem cloneS_h : Holds Tryz.prog 66 cloneSS := holds_of mix Tryz.func66 cloneSLow (fun _ => rfl) cloneSV

end Go.Proofs.YtpkhannkbafimaaGreat
