/- The clock: how the arguments of the laws read. -/
import Derived.Test.YtmehmnlhnbeeeaaG1
import Derived.Test.YtmehmnlhnbeeeaaE4
import Derived.Test.YtmehmnlhnbeeeaaRows
namespace Go.Proofs.Ytmehmnlhnbeeeaa
open Go.ChangeShapes Go.WideShapes Go.Deep Go.RowKit Go.Joins
theorem i64_of {n : Int} (h : (Lit.int .i64 n).wf = true) : i64 n := bounds_i64 h
def wfH (x : Hours) : Prop := i64 x.days ∧ i64 x.frm ∧ i64 x.to
theorem decH (e : List CV) (h : FitsL [.int .i64, .int .i64, .int .i64] e) : ∃ x : Hours, e = encH x ∧ wfH x := by
  obtain ⟨c0, r0, rfl, f0, h0⟩ := h.cons_inv
  obtain ⟨n0, rfl, w0⟩ := f0.int_inv
  obtain ⟨c1, r1, rfl, f1, h1⟩ := h0.cons_inv
  obtain ⟨n1, rfl, w1⟩ := f1.int_inv
  obtain ⟨c2, r2, rfl, f2, h2⟩ := h1.cons_inv
  obtain ⟨n2, rfl, w2⟩ := f2.int_inv
  obtain rfl := h2.nil_inv
  exact ⟨⟨n0, n1, n2⟩, rfl, i64_of w0, i64_of w1, i64_of w2⟩
def wfV (x : Ivl) : Prop := i64 x.frm ∧ i64 x.to
theorem decV (e : List CV) (h : FitsL [.int .i64, .int .i64] e) : ∃ x : Ivl, e = encV x ∧ wfV x := by
  obtain ⟨c0, r0, rfl, f0, h0⟩ := h.cons_inv
  obtain ⟨n0, rfl, w0⟩ := f0.int_inv
  obtain ⟨c1, r1, rfl, f1, h1⟩ := h0.cons_inv
  obtain ⟨n1, rfl, w1⟩ := f1.int_inv
  obtain rfl := h1.nil_inv
  exact ⟨⟨n0, n1⟩, rfl, i64_of w0, i64_of w1⟩
theorem openHours {H : Type} {enc : TypeId × Value → H} {w : World} {base : Nat} {spare : Nat → Bool} {held : Bool} {r : Reach} {b0 : Nat} {v : Value} {d : DataW H} {p : List MemPlace} (hv : Value.okWide Try.prog w r b0 25 v) (h : DataW.Trod enc Try.prog w base spare held 25 v d p) :
    ∃ xs : List Hours, (xs.length ≤ maxLen ∧ ∀ x ∈ xs, wfH x) ∧ Rep w (fun _ => False) (fun _ => none) [] 0 (L 3 (xs.map encH)) v := by
  obtain ⟨c, hf, hr⟩ := open_sl (n := 8) (s := .sl [.int .i64, .int .i64, .int .i64]) Try.underlying25 (by kernel_rfl) hv h
  obtain ⟨xs, rfl, hm, hp⟩ := hf.rows (f := encH) (p := wfH) decH
  exact ⟨xs, ⟨hm, hp⟩, hr⟩
theorem openIvls {H : Type} {enc : TypeId × Value → H} {w : World} {base : Nat} {spare : Nat → Bool} {held : Bool} {r : Reach} {b0 : Nat} {v : Value} {d : DataW H} {p : List MemPlace} (hv : Value.okWide Try.prog w r b0 30 v) (h : DataW.Trod enc Try.prog w base spare held 30 v d p) :
    ∃ xs : List Ivl, (xs.length ≤ maxLen ∧ ∀ x ∈ xs, wfV x) ∧ Rep w (fun _ => False) (fun _ => none) [] 0 (L 2 (xs.map encV)) v := by
  obtain ⟨c, hf, hr⟩ := open_sl (n := 8) (s := .sl [.int .i64, .int .i64]) Try.underlying30 (by kernel_rfl) hv h
  obtain ⟨xs, rfl, hm, hp⟩ := hf.rows (f := encV) (p := wfV) decV
  exact ⟨xs, ⟨hm, hp⟩, hr⟩

end Go.Proofs.Ytmehmnlhnbeeeaa
