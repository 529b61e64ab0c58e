/- Rides: how the arguments of the laws read. -/
import Derived.Test.YtfghmpfiemmbgaaG1
import Derived.Test.YtfghmpfiemmbgaaOpn
import Derived.Test.YtfghmpfiemmbgaaRows
namespace Go.Proofs.Ytfghmpfiemmbgaa
open Go.ChangeShapes Go.WideShapes Go.Deep Go.RowKit Go.Joins
/-- A number of 64 bits. -/
def i64 (n : Int) : Prop := -9223372036854775808 ≤ n ∧ n ≤ 9223372036854775807
theorem i64_of {n : Int} (h : (Lit.int .i64 n).wf = true) : i64 n := bounds_i64 h
def wfR (x : Ride) : Prop := i64 x.gate ∧ i64 x.seq ∧ i64 x.serial ∧ i64 x.counter ∧ i64 x.product ∧ i64 x.lift ∧ i64 x.at_
theorem decR (e : List CV) (h : FitsL [.int .i64, .int .i64, .int .i64, .int .i64, .int .i64, .int .i64, .int .i64] e) : ∃ x : Ride, e = encR x ∧ wfR x := by
  obtain ⟨c0, r0, rfl, f0, h0⟩ := h.cons_inv
  obtain ⟨n0, rfl, w0⟩ := f0.int_inv
  obtain ⟨c1, r1, rfl, f1, h1⟩ := h0.cons_inv
  obtain ⟨n1, rfl, w1⟩ := f1.int_inv
  obtain ⟨c2, r2, rfl, f2, h2⟩ := h1.cons_inv
  obtain ⟨n2, rfl, w2⟩ := f2.int_inv
  obtain ⟨c3, r3, rfl, f3, h3⟩ := h2.cons_inv
  obtain ⟨n3, rfl, w3⟩ := f3.int_inv
  obtain ⟨c4, r4, rfl, f4, h4⟩ := h3.cons_inv
  obtain ⟨n4, rfl, w4⟩ := f4.int_inv
  obtain ⟨c5, r5, rfl, f5, h5⟩ := h4.cons_inv
  obtain ⟨n5, rfl, w5⟩ := f5.int_inv
  obtain ⟨c6, r6, rfl, f6, h6⟩ := h5.cons_inv
  obtain ⟨n6, rfl, w6⟩ := f6.int_inv
  obtain rfl := h6.nil_inv
  exact ⟨⟨n0, n1, n2, n3, n4, n5, n6⟩, rfl, i64_of w0, i64_of w1, i64_of w2, i64_of w3, i64_of w4, i64_of w5, i64_of w6⟩
theorem openRides {H : Type} {enc : TypeId × Value → H} {w : World} {base : Nat} {spare : Nat → Bool} {held : Bool} {r : Reach} {b0 : Nat} {v : Value} {d : DataW H} {p : List MemPlace} (hv : Value.okWide Try.prog w r b0 22 v) (h : DataW.Trod enc Try.prog w base spare held 22 v d p) :
    ∃ xs : List Ride, (xs.length ≤ maxLen ∧ ∀ x ∈ xs, wfR x) ∧ Rep w (fun _ => False) (fun _ => none) [] 0 (L 7 (xs.map encR)) v := by
  obtain ⟨c, hf, hr⟩ := open_sl (n := 8) (s := .sl [.int .i64, .int .i64, .int .i64, .int .i64, .int .i64, .int .i64, .int .i64]) Try.underlying22 (by kernel_rfl) hv h
  obtain ⟨xs, rfl, hm, hp⟩ := hf.rows (f := encR) (p := wfR) decR
  exact ⟨xs, ⟨hm, hp⟩, hr⟩
theorem openRide {H : Type} {enc : TypeId × Value → H} {w : World} {base : Nat} {spare : Nat → Bool} {held : Bool} {r : Reach} {b0 : Nat} {v : Value} {d : DataW H} {p : List MemPlace} (hv : Value.okWide Try.prog w r b0 28 v) (h : DataW.Trod enc Try.prog w base spare held 28 v d p) :
    ∃ x : Ride, wfR x ∧ Rep w (fun _ => False) (fun _ => none) [] 0 (.agg ((encR x).map .c)) v := by
  obtain ⟨cs, hf, hr⟩ := open_st (n := 8) (ss := [.int .i64, .int .i64, .int .i64, .int .i64, .int .i64, .int .i64, .int .i64]) Try.underlying28 (by kernel_rfl) hv h
  obtain ⟨x, rfl, hp⟩ := decR cs hf
  exact ⟨x, hp, hr⟩

end Go.Proofs.Ytfghmpfiemmbgaa
