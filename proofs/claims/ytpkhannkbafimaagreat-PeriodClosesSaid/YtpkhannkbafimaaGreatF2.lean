/- Netting: Valid. -/
import Derived.Test.YtpkhannkbafimaaGreatF1
import Derived.Test.YtpkhannkbafimaaGreatP7
namespace Go.Proofs.YtpkhannkbafimaaGreat
open Go.RowKit

/-! (skiarea/netting.sum).zero -/
def zeroIr : IFn := ⟨16, [.tmp 2],
 (.seq (.ops [
 ⟨(some 1), .box, [.tmp 0], none⟩,
 ⟨(some 2), .mov, [.const (.bool false)], none⟩] false)
 (.seq (.ops [
 ⟨(some 3), .faddr 1, [.tmp 1], none⟩,
 ⟨(some 4), .load 1 false, [.tmp 3], none⟩,
 ⟨(some 5), .bin .and .i64 false, [.tmp 4, .const (.int .i64 1048575)], none⟩,
 ⟨(some 6), .cmp .eql, [.tmp 5, .const (.int .i64 0)], none⟩,
 ⟨(some 7), .mov, [.tmp 6], none⟩,
 ⟨(some 8), .faddr 0, [.tmp 1], (some (7, true))⟩,
 ⟨(some 9), .load 1 false, [.tmp 8], (some (7, true))⟩,
 ⟨(some 10), .faddr 1, [.tmp 1], (some (7, true))⟩,
 ⟨(some 11), .load 1 false, [.tmp 10], (some (7, true))⟩,
 ⟨(some 12), .bin .shr .i64 false, [.tmp 11, .const (.int .u64 20)], (some (7, true))⟩,
 ⟨(some 13), .bin .add .i64 false, [.tmp 9, .tmp 12], (some (7, true))⟩,
 ⟨(some 14), .cmp .eql, [.tmp 13, .const (.int .i64 0)], (some (7, true))⟩,
 ⟨(some 15), .pick, [.tmp 7, .tmp 14, .const (.bool false)], none⟩,
 ⟨(some 2), .mov, [.tmp 15], none⟩] false)
 .ret))⟩
theorem zeroLow : lowF Tryz.prog {} Tryz.f78 = some zeroIr := by kernel_rfl
def zeroS : Spec := spec (Int × Int) (fun p => [.agg [I p.1, I p.2]]) (fun p => (-1125899906842624 ≤ p.1 ∧ p.1 ≤ 1125899906842624) ∧ -1125899906842624 ≤ p.2 ∧ p.2 ≤ 1125899906842624) (fun p => B (decide (p.1 * 1048576 + p.2 = 0)))
theorem zeroV : fnV Tryz.prog zeroIr zeroS := by
  intro ⟨(hi : Int), (lo : Int)⟩ hx
  obtain ⟨⟨h1, h2⟩, h3, h4⟩ : (-1125899906842624 ≤ hi ∧ hi ≤ 1125899906842624) ∧ -1125899906842624 ≤ lo ∧ lo ≤ 1125899906842624 := hx
  have e1 := low20 lo
  have e2 := shr20 lo
  show vc _ _ _ _ ⟨argEnv 0 [.agg [I hi, I lo]], [], 0⟩
  repeat' ((conv => whnf); first | (refine ⟨fun h => ?_, fun h => ?_⟩ <;> try (exfalso; first | omega | exact absurd h (by decide) | exact h rfl)) | refine ⟨by decide, ?_⟩ | refine ⟨⟨by omega, by omega⟩, ?_⟩ | refine ⟨[], rfl, trivial, congrArg CV.bool ?_⟩ | fail)
  all_goals first | exact (decide_eq_true (by show hi * 1048576 + lo = 0; omega)).symm | exact (decide_eq_false (by show ¬ hi * 1048576 + lo = 0; omega)).symm
theorem zero_h : Holds Tryz.prog 78 zeroS := holds_of mix Tryz.func78 zeroLow (fun _ => rfl) zeroV

/-- What add is given, and what it leaves. -/
structure AddX where
  e : Nat
  es : List (List CV)
  i : Nat
  h : Int
  l : Int
  n : Int
  sg : Int
def addS : GSpec := ⟨AddX, fun x => [.row x.e 2 x.es], fun x => [.ep 0 2 x.i 0, I x.n, I x.sg],
  fun x => x.es[x.i]? = some [.int .i64 x.h, .int .i64 x.l] ∧ (x.sg = 1 ∨ x.sg = -1) ∧ (-1099511627776 ≤ x.n ∧ x.n ≤ 1099511627776) ∧ (-1125899906842624 ≤ x.h ∧ x.h ≤ 1125899906842624) ∧ -1125899906842624 ≤ x.l ∧ x.l ≤ 1125899906842624,
  fun _ => .tup [], fun x => [.row x.e 2 (x.es.set x.i [.int .i64 (x.h + x.sg * (x.n / 1048576)), .int .i64 (x.l + x.sg * (x.n % 1048576))])], fun _ => []⟩
theorem addPre {e : Nat} {es : List (List CV)} {i : Nat} {h l n sg : Int} (h1 : es[i]? = some [.int .i64 h, .int .i64 l]) (h2 : sg = 1 ∨ sg = -1) (h3 : -1099511627776 ≤ n ∧ n ≤ 1099511627776) (h4 : -1125899906842624 ≤ h ∧ h ≤ 1125899906842624) (h5 : -1125899906842624 ≤ l ∧ l ≤ 1125899906842624) : addS.pre ⟨e, es, i, h, l, n, sg⟩ := ⟨h1, h2, h3, h4, h5⟩

/-! (*skiarea/netting.sum).add -/
def addIr : IFn := ⟨28, [],
 (.seq (.ops [
 ⟨(some 6), .mov, [.tmp 0], none⟩,
 ⟨(some 7), .nilchk, [.tmp 6], none⟩,
 ⟨(some 8), .faddr 0, [.tmp 7], none⟩,
 ⟨(some 9), .load 1 false, [.tmp 8], none⟩,
 ⟨(some 10), .mov, [.tmp 2], none⟩,
 ⟨(some 11), .mov, [.tmp 1], none⟩,
 ⟨(some 12), .bin .shr .i64 false, [.tmp 11, .const (.int .u64 20)], none⟩,
 ⟨(some 13), .bin .mul .i64 false, [.tmp 10, .tmp 12], none⟩,
 ⟨(some 14), .bin .add .i64 false, [.tmp 9, .tmp 13], none⟩,
 ⟨(some 15), .nilchk, [.tmp 6], none⟩,
 ⟨(some 16), .faddr 0, [.tmp 15], none⟩,
 ⟨none, .store 1, [.tmp 16, .tmp 14], none⟩] false)
 (.ops [
 ⟨(some 17), .mov, [.tmp 0], none⟩,
 ⟨(some 18), .nilchk, [.tmp 17], none⟩,
 ⟨(some 19), .faddr 1, [.tmp 18], none⟩,
 ⟨(some 20), .load 1 false, [.tmp 19], none⟩,
 ⟨(some 21), .mov, [.tmp 2], none⟩,
 ⟨(some 22), .mov, [.tmp 1], none⟩,
 ⟨(some 23), .bin .and .i64 false, [.tmp 22, .const (.int .i64 1048575)], none⟩,
 ⟨(some 24), .bin .mul .i64 false, [.tmp 21, .tmp 23], none⟩,
 ⟨(some 25), .bin .add .i64 false, [.tmp 20, .tmp 24], none⟩,
 ⟨(some 26), .nilchk, [.tmp 17], none⟩,
 ⟨(some 27), .faddr 1, [.tmp 26], none⟩,
 ⟨none, .store 1, [.tmp 27, .tmp 25], none⟩] false))⟩
theorem addLow : lowF Tryz.prog {} Tryz.f76 = some addIr := by kernel_rfl
theorem addV : fnG Tryz.prog addIr addS := by
  intro ⟨e, es, i, hh, ll, n, sg⟩ hx
  obtain ⟨hr, hsg, ⟨n1, n2⟩, ⟨h1, h2⟩, h3, h4⟩ : es[i]? = some [.int .i64 hh, .int .i64 ll] ∧ (sg = 1 ∨ sg = -1) ∧ (-1099511627776 ≤ n ∧ n ≤ 1099511627776) ∧ (-1125899906842624 ≤ hh ∧ hh ≤ 1125899906842624) ∧ -1125899906842624 ≤ ll ∧ ll ≤ 1125899906842624 := hx
  have e1 := low20 n
  have e2 := shr20 n
  have m1 : sg * (n / 1048576) = n / 1048576 ∨ sg * (n / 1048576) = - (n / 1048576) := by rcases hsg with h | h <;> subst h <;> omega
  have m2 : sg * (n % 1048576) = n % 1048576 ∨ sg * (n % 1048576) = - (n % 1048576) := by rcases hsg with h | h <;> subst h <;> omega
  have hlt := (List.getElem?_eq_some_iff.1 hr).1
  show vc _ _ _ _ ⟨argEnv 0 [.ep 0 2 i 0, I n, I sg], idxFrom 0 [.row e 2 es], 1⟩
  conv => whnf
  refine get_at hr ?_
  conv => whnf
  refine ⟨by decide, ?_⟩
  rw [e2]
  conv => whnf
  refine ⟨⟨by omega, by omega⟩, ?_⟩
  conv => whnf
  refine ⟨⟨by omega, by omega⟩, ?_⟩
  conv => whnf
  refine get_at hr ?_
  conv => whnf
  have hr2 : (es.set i (setL [CV.int .i64 hh, .int .i64 ll] 0 [CV.int .i64 (hh + sg * (n / 1048576))]))[i]? = some [CV.int .i64 (hh + sg * (n / 1048576)), .int .i64 ll] := List.getElem?_set_self hlt
  refine get_at hr2 ?_
  conv => whnf
  rw [e1]
  refine ⟨⟨by omega, by omega⟩, ?_⟩
  conv => whnf
  refine ⟨⟨by omega, by omega⟩, ?_⟩
  conv => whnf
  refine get_at hr2 ?_
  conv => whnf
  refine ⟨[], rfl, rfl, ⟨⟨?_, rfl⟩, trivial⟩, trivial⟩
  show some (Ob.row e 2 ((es.set i _).set i _)) = some (Ob.row e 2 (es.set i _))
  rw [List.set_set]
  rfl
theorem add_g : HoldsG Tryz.prog 76 addS := holdsG_of mix Tryz.func76 addLow (fun _ => rfl) addV

end Go.Proofs.YtpkhannkbafimaaGreat
