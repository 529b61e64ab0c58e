/- Netting: how the arguments of the laws read. -/
import Derived.Test.YtdkkblcninogdaaG1
import Derived.Test.YtdkkblcninogdaaE4
import Derived.Test.YtdkkblcninogdaaRows
namespace Go.Proofs.Ytdkkblcninogdaa
open Go.ChangeShapes Go.WideShapes Go.Deep Go.RowKit Go.Joins
theorem i64_of {n : Int} (h : (Lit.int .i64 n).wf = true) : i64 n := bounds_i64 h
def wfS (x : Share) : Prop := i64 x.o ∧ i64 x.a
theorem decS (e : List CV) (h : FitsL [.int .i64, .int .i64] e) : ∃ x : Share, e = encS x ∧ wfS x := by
  obtain ⟨c0, r0, rfl, f0, h0⟩ := h.cons_inv
  obtain ⟨n0, rfl, w0⟩ := f0.int_inv
  obtain ⟨c1, r1, rfl, f1, h1⟩ := h0.cons_inv
  obtain ⟨n1, rfl, w1⟩ := f1.int_inv
  obtain rfl := h1.nil_inv
  exact ⟨⟨n0, n1⟩, rfl, i64_of w0, i64_of w1⟩
def wfT (x : Tfer) : Prop := i64 x.f ∧ i64 x.t ∧ i64 x.a
theorem decT (e : List CV) (h : FitsL [.int .i64, .int .i64, .int .i64] e) : ∃ x : Tfer, e = encT x ∧ wfT x := by
  obtain ⟨c0, r0, rfl, f0, h0⟩ := h.cons_inv
  obtain ⟨n0, rfl, w0⟩ := f0.int_inv
  obtain ⟨c1, r1, rfl, f1, h1⟩ := h0.cons_inv
  obtain ⟨n1, rfl, w1⟩ := f1.int_inv
  obtain ⟨c2, r2, rfl, f2, h2⟩ := h1.cons_inv
  obtain ⟨n2, rfl, w2⟩ := f2.int_inv
  obtain rfl := h2.nil_inv
  exact ⟨⟨n0, n1, n2⟩, rfl, i64_of w0, i64_of w1, i64_of w2⟩
theorem openS {H : Type} {enc : TypeId × Value → H} {w : World} {base : Nat} {spare : Nat → Bool} {held : Bool} {r : Reach} {b0 : Nat} {v : Value} {d : DataW H} {p : List MemPlace} (hv : Value.okWide Try.prog w r b0 22 v) (h : DataW.Trod enc Try.prog w base spare held 22 v d p) :
    ∃ xs : List Share, (xs.length ≤ maxLen ∧ ∀ x ∈ xs, wfS x) ∧ Rep w (fun _ => False) (fun _ => none) [] 0 (L 2 (xs.map encS)) v := by
  obtain ⟨c, hf, hr⟩ := open_sl (n := 8) (s := .sl [.int .i64, .int .i64]) Try.underlying22 (by kernel_rfl) hv h
  obtain ⟨xs, rfl, hm, hp⟩ := hf.rows (f := encS) (p := wfS) decS
  exact ⟨xs, ⟨hm, hp⟩, hr⟩
theorem openT {H : Type} {enc : TypeId × Value → H} {w : World} {base : Nat} {spare : Nat → Bool} {held : Bool} {r : Reach} {b0 : Nat} {v : Value} {d : DataW H} {p : List MemPlace} (hv : Value.okWide Try.prog w r b0 27 v) (h : DataW.Trod enc Try.prog w base spare held 27 v d p) :
    ∃ xs : List Tfer, (xs.length ≤ maxLen ∧ ∀ x ∈ xs, wfT x) ∧ Rep w (fun _ => False) (fun _ => none) [] 0 (L 3 (xs.map encT)) v := by
  obtain ⟨c, hf, hr⟩ := open_sl (n := 8) (s := .sl [.int .i64, .int .i64, .int .i64]) Try.underlying27 (by kernel_rfl) hv h
  obtain ⟨xs, rfl, hm, hp⟩ := hf.rows (f := encT) (p := wfT) decT
  exact ⟨xs, ⟨hm, hp⟩, hr⟩

end Go.Proofs.Ytdkkblcninogdaa
