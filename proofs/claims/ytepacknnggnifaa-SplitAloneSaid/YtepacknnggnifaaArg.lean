/- Split: how the arguments of the laws read. -/
import Derived.Test.YtepacknnggnifaaG1
import Derived.Test.YtepacknnggnifaaE4
import Derived.Test.YtepacknnggnifaaRows
namespace Go.Proofs.Ytepacknnggnifaa
open Go.ChangeShapes Go.WideShapes Go.Deep Go.RowKit Go.Joins
theorem i64_of {n : Int} (h : (Lit.int .i64 n).wf = true) : i64 n := bounds_i64 h
theorem wf_of {n : Int} (h : i64 n) : (Lit.int .i64 n).wf = true := by
  obtain ⟨h1, h2⟩ := h
  simp [Lit.wf, IntKind.min, IntKind.max, IntKind.signed, IntKind.bits]
  omega
theorem decI (e : List CV) (h : FitsL [.int .i64] e) : ∃ x : Int, e = e1 x ∧ i64 x := by
  obtain ⟨c0, r0, rfl, f0, h0⟩ := h.cons_inv
  obtain ⟨n0, rfl, w0⟩ := f0.int_inv
  obtain rfl := h0.nil_inv
  exact ⟨n0, rfl, i64_of w0⟩
def wfS (x : Share) : Prop := i64 x.o ∧ i64 x.a
theorem decS (e : List CV) (h : FitsL [.int .i64, .int .i64] e) : ∃ x : Share, e = encS x ∧ wfS x := by
  obtain ⟨c0, r0, rfl, f0, h0⟩ := h.cons_inv
  obtain ⟨n0, rfl, w0⟩ := f0.int_inv
  obtain ⟨c1, r1, rfl, f1, h1⟩ := h0.cons_inv
  obtain ⟨n1, rfl, w1⟩ := f1.int_inv
  obtain rfl := h1.nil_inv
  exact ⟨⟨n0, n1⟩, rfl, i64_of w0, i64_of w1⟩
theorem openI {H : Type} {enc : TypeId × Value → H} {w : World} {base : Nat} {spare : Nat → Bool} {held : Bool} {r : Reach} {b0 : Nat} {v : Value} {d : DataW H} {p : List MemPlace} (hv : Value.okWide Try.prog w r b0 22 v) (h : DataW.Trod enc Try.prog w base spare held 22 v d p) :
    ∃ xs : List Int, (xs.length ≤ maxLen ∧ ∀ x ∈ xs, i64 x) ∧ Rep w (fun _ => False) (fun _ => none) [] 0 (L 1 (xs.map e1)) v := by
  obtain ⟨c, hf, hr⟩ := open_sl (n := 8) (s := .sl [.int .i64]) Try.underlying22 (by kernel_rfl) hv h
  obtain ⟨xs, rfl, hm, hp⟩ := hf.rows (f := e1) (p := i64) decI
  exact ⟨xs, ⟨hm, hp⟩, hr⟩
theorem openS {H : Type} {enc : TypeId × Value → H} {w : World} {base : Nat} {spare : Nat → Bool} {held : Bool} {r : Reach} {b0 : Nat} {v : Value} {d : DataW H} {p : List MemPlace} (hv : Value.okWide Try.prog w r b0 32 v) (h : DataW.Trod enc Try.prog w base spare held 32 v d p) :
    ∃ xs : List Share, (xs.length ≤ maxLen ∧ ∀ x ∈ xs, wfS x) ∧ Rep w (fun _ => False) (fun _ => none) [] 0 (L 2 (xs.map encS)) v := by
  obtain ⟨c, hf, hr⟩ := open_sl (n := 8) (s := .sl [.int .i64, .int .i64]) Try.underlying32 (by kernel_rfl) hv h
  obtain ⟨xs, rfl, hm, hp⟩ := hf.rows (f := encS) (p := wfS) decS
  exact ⟨xs, ⟨hm, hp⟩, hr⟩

end Go.Proofs.Ytepacknnggnifaa
