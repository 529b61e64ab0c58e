/- Split: math/bits.LeadingZeros64. -/
import Derived.Test.YtepacknnggnifaaFC
import Derived.Test.YtepacknnggnifaaP9
import Derived.Test.YtepacknnggnifaaShelf
namespace Go.Proofs.Ytepacknnggnifaa
open Go.RowKit Go.Proofs

/-- bits.Len64 by the kit's contract. -/
theorem len64_x (s : St) (x : Int) (h0 : 0 ≤ x) (h1 : x ≤ 18446744073709551615) (K : SV → St → Prop) (hK : K (I (Lib.bitLen x.toNat)) s) : callX Try.prog 51 s [U x] K := by
  refine ⟨fun v s' => v = I (Lib.bitLen x.toNat) ∧ s' = s, fun F w0 ι w us hm hr => ?_, fun v s' h => by obtain ⟨rfl, rfl⟩ := h; exact hK⟩
  obtain ⟨u, ur, rfl, hu, hr⟩ := replist_cons hr
  obtain rfl := replist_nil hr
  obtain rfl := rep_int hu
  refine Calls.mono (calls_of_every_depth fun D => AnySM.bits_Len64InS Try.len64A D x w h0 h1) ?_
  rintro e w' ⟨rfl, rfl⟩
  exact ⟨_, rfl, .refl _, ι, _, s, rfl, step_nop hm, .c _ _ (.int ..), rfl, rfl⟩

/-! math/bits.LeadingZeros64 -/
def lzIr : IFn := ⟨6, [.tmp 2],
  (.seq (.ops [
    ⟨(some 2), .mov, [.const (.int .i64 0)], none⟩] false)
  (.seq (.ops [
    ⟨(some 3), .mov, [.tmp 0], none⟩,
    ⟨(some 4), .callx 51, [.tmp 3], none⟩,
    ⟨(some 5), .bin .sub .i64 false, [.const (.int .i64 64), .tmp 4], none⟩,
    ⟨(some 2), .mov, [.tmp 5], none⟩] false)
  .ret))⟩
theorem lzLow : lowF Try.prog { exts := [4] } Try.f45 = some lzIr := by kernel_rfl
def lzS : Spec := spec Int (fun y => [U y]) (fun y => 0 < y ∧ y < 68719476736) (fun y => I (64 - Lib.bitLen y.toNat))
theorem lzV : fnV Try.prog lzIr lzS := by
  intro (y : Int) hx
  obtain ⟨y0, y1⟩ : 0 < y ∧ y < 68719476736 := hx
  obtain ⟨s, hb, hs, -⟩ := shl_norm y0 y1
  show vc _ _ _ _ ⟨argEnv 0 [U y], [], 0⟩
  conv => whnf
  refine len64_x _ y (by omega) (by omega) _ ?_
  repeat' ((conv => whnf); first | refine ⟨⟨by omega, by omega⟩, ?_⟩ | fail)
  exact ⟨[], rfl, trivial, rfl⟩
theorem lz_h : Holds Try.prog 45 lzS := holds_of mix Try.func45 lzLow (fun _ => rfl) lzV

end Go.Proofs.Ytepacknnggnifaa
