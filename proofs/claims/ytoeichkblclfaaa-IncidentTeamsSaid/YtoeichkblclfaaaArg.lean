/- Incidents: how the arguments of the laws read. -/
import Derived.Test.YtoeichkblclfaaaN2
import Derived.Test.YtoeichkblclfaaaE4
import Derived.Test.YtoeichkblclfaaaRows
namespace Go.Proofs.Ytoeichkblclfaaa
open Go.ChangeShapes Go.WideShapes Go.Deep Go.RowKit Go.Joins
theorem decI1 (e : List CV) (h : FitsL [.int .i64] e) : ∃ x : Int, e = e1 x ∧ True := by
  obtain ⟨c0, r0, rfl, f0, h0⟩ := h.cons_inv
  obtain ⟨n0, rfl, _⟩ := f0.int_inv
  obtain rfl := h0.nil_inv
  exact ⟨n0, rfl, trivial⟩
theorem decN (e : List CV) (h : FitsL [.int .i64, .int .i64] e) : ∃ x : Node, e = encN x ∧ True := by
  obtain ⟨c0, r0, rfl, f0, h0⟩ := h.cons_inv
  obtain ⟨n0, rfl, _⟩ := f0.int_inv
  obtain ⟨c1, r1, rfl, f1, h1⟩ := h0.cons_inv
  obtain ⟨n1, rfl, _⟩ := f1.int_inv
  obtain rfl := h1.nil_inv
  exact ⟨⟨n0, n1⟩, rfl, trivial⟩
theorem decL (e : List CV) (h : FitsL [.int .i64, .int .i64, .int .i64, .int .i64, .int .i64, .int .i64, .int .i64, .int .i64] e) : ∃ x : Lift, e = encL x ∧ True := by
  obtain ⟨c0, r0, rfl, f0, h0⟩ := h.cons_inv
  obtain ⟨n0, rfl, _⟩ := f0.int_inv
  obtain ⟨c1, r1, rfl, f1, h1⟩ := h0.cons_inv
  obtain ⟨n1, rfl, _⟩ := f1.int_inv
  obtain ⟨c2, r2, rfl, f2, h2⟩ := h1.cons_inv
  obtain ⟨n2, rfl, _⟩ := f2.int_inv
  obtain ⟨c3, r3, rfl, f3, h3⟩ := h2.cons_inv
  obtain ⟨n3, rfl, _⟩ := f3.int_inv
  obtain ⟨c4, r4, rfl, f4, h4⟩ := h3.cons_inv
  obtain ⟨n4, rfl, _⟩ := f4.int_inv
  obtain ⟨c5, r5, rfl, f5, h5⟩ := h4.cons_inv
  obtain ⟨n5, rfl, _⟩ := f5.int_inv
  obtain ⟨c6, r6, rfl, f6, h6⟩ := h5.cons_inv
  obtain ⟨n6, rfl, _⟩ := f6.int_inv
  obtain ⟨c7, r7, rfl, f7, h7⟩ := h6.cons_inv
  obtain ⟨n7, rfl, _⟩ := f7.int_inv
  obtain rfl := h7.nil_inv
  exact ⟨⟨n0, n1, n2, n3, n4, n5, n6, n7⟩, rfl, trivial⟩
theorem decU (e : List CV) (h : FitsL [.int .i64, .int .i64, .int .i64, .int .i64, .int .i64, .int .i64, .int .i64] e) : ∃ x : Rn, e = encU x ∧ True := by
  obtain ⟨c0, r0, rfl, f0, h0⟩ := h.cons_inv
  obtain ⟨n0, rfl, _⟩ := f0.int_inv
  obtain ⟨c1, r1, rfl, f1, h1⟩ := h0.cons_inv
  obtain ⟨n1, rfl, _⟩ := f1.int_inv
  obtain ⟨c2, r2, rfl, f2, h2⟩ := h1.cons_inv
  obtain ⟨n2, rfl, _⟩ := f2.int_inv
  obtain ⟨c3, r3, rfl, f3, h3⟩ := h2.cons_inv
  obtain ⟨n3, rfl, _⟩ := f3.int_inv
  obtain ⟨c4, r4, rfl, f4, h4⟩ := h3.cons_inv
  obtain ⟨n4, rfl, _⟩ := f4.int_inv
  obtain ⟨c5, r5, rfl, f5, h5⟩ := h4.cons_inv
  obtain ⟨n5, rfl, _⟩ := f5.int_inv
  obtain ⟨c6, r6, rfl, f6, h6⟩ := h5.cons_inv
  obtain ⟨n6, rfl, _⟩ := f6.int_inv
  obtain rfl := h6.nil_inv
  exact ⟨⟨n0, n1, n2, n3, n4, n5, n6⟩, rfl, trivial⟩
theorem decI (e : List CV) (h : FitsL [.int .i64, .int .i64, .int .i64, .int .i64, .int .i64, .int .i64] e) : ∃ x : Inc, e = encI x ∧ True := by
  obtain ⟨c0, r0, rfl, f0, h0⟩ := h.cons_inv
  obtain ⟨n0, rfl, _⟩ := f0.int_inv
  obtain ⟨c1, r1, rfl, f1, h1⟩ := h0.cons_inv
  obtain ⟨n1, rfl, _⟩ := f1.int_inv
  obtain ⟨c2, r2, rfl, f2, h2⟩ := h1.cons_inv
  obtain ⟨n2, rfl, _⟩ := f2.int_inv
  obtain ⟨c3, r3, rfl, f3, h3⟩ := h2.cons_inv
  obtain ⟨n3, rfl, _⟩ := f3.int_inv
  obtain ⟨c4, r4, rfl, f4, h4⟩ := h3.cons_inv
  obtain ⟨n4, rfl, _⟩ := f4.int_inv
  obtain ⟨c5, r5, rfl, f5, h5⟩ := h4.cons_inv
  obtain ⟨n5, rfl, _⟩ := f5.int_inv
  obtain rfl := h5.nil_inv
  exact ⟨⟨n0, n1, n2, n3, n4, n5⟩, rfl, trivial⟩
theorem decO (e : List CV) (h : FitsL [.int .i64, .int .i64, .int .i64, .int .i64] e) : ∃ x : Opr, e = encOp x ∧ True := by
  obtain ⟨c0, r0, rfl, f0, h0⟩ := h.cons_inv
  obtain ⟨n0, rfl, _⟩ := f0.int_inv
  obtain ⟨c1, r1, rfl, f1, h1⟩ := h0.cons_inv
  obtain ⟨n1, rfl, _⟩ := f1.int_inv
  obtain ⟨c2, r2, rfl, f2, h2⟩ := h1.cons_inv
  obtain ⟨n2, rfl, _⟩ := f2.int_inv
  obtain ⟨c3, r3, rfl, f3, h3⟩ := h2.cons_inv
  obtain ⟨n3, rfl, _⟩ := f3.int_inv
  obtain rfl := h3.nil_inv
  exact ⟨⟨n0, n1, n2, n3⟩, rfl, trivial⟩
theorem decM (e : List CV) (h : FitsL [.sl [.int .i64, .int .i64], .sl [.int .i64, .int .i64, .int .i64, .int .i64, .int .i64, .int .i64, .int .i64, .int .i64], .sl [.int .i64, .int .i64, .int .i64, .int .i64, .int .i64, .int .i64, .int .i64], .sl [.int .i64]] e) : ∃ x : Mp, e = cellsM x ∧ okM x := by
  obtain ⟨c0, r0, rfl, f0, h0⟩ := h.cons_inv
  obtain ⟨x0, rfl, m0, _⟩ := f0.rows (f := encN) (p := fun _ => True) decN
  obtain ⟨c1, r1, rfl, f1, h1⟩ := h0.cons_inv
  obtain ⟨x1, rfl, m1, _⟩ := f1.rows (f := encL) (p := fun _ => True) decL
  obtain ⟨c2, r2, rfl, f2, h2⟩ := h1.cons_inv
  obtain ⟨x2, rfl, m2, _⟩ := f2.rows (f := encU) (p := fun _ => True) decU
  obtain ⟨c3, r3, rfl, f3, h3⟩ := h2.cons_inv
  obtain ⟨x3, rfl, m3, _⟩ := f3.rows (f := e1) (p := fun _ => True) decI1
  obtain rfl := h3.nil_inv
  exact ⟨⟨x0, x1, x2, x3⟩, rfl, ⟨⟨m0, m1⟩, m2, m3⟩⟩
/-- A map, incidents, and the nodes of teams. -/
structure Scn where
  m : Mp
  l : List Inc
  nodes : List Int
def okS (x : Scn) : Prop := okM x.m ∧ x.l.length ≤ 9223372036854775807 ∧ x.nodes.length ≤ 9223372036854775807
abbrev encSc (x : Scn) : List CV := [.sl 2 (x.m.nodes.map encN), .sl 8 (x.m.lifts.map encL), .sl 7 (x.m.runs.map encU), .sl 1 (x.m.bases.map e1), .sl 6 (x.l.map encI), .sl 1 (x.nodes.map e1)]
theorem decSc (e : List CV) (h : FitsL [.sl [.int .i64, .int .i64], .sl [.int .i64, .int .i64, .int .i64, .int .i64, .int .i64, .int .i64, .int .i64, .int .i64], .sl [.int .i64, .int .i64, .int .i64, .int .i64, .int .i64, .int .i64, .int .i64], .sl [.int .i64], .sl [.int .i64, .int .i64, .int .i64, .int .i64, .int .i64, .int .i64], .sl [.int .i64]] e) : ∃ x : Scn, e = encSc x ∧ okS x := by
  obtain ⟨c0, r0, rfl, f0, h0⟩ := h.cons_inv
  obtain ⟨x0, rfl, m0, _⟩ := f0.rows (f := encN) (p := fun _ => True) decN
  obtain ⟨c1, r1, rfl, f1, h1⟩ := h0.cons_inv
  obtain ⟨x1, rfl, m1, _⟩ := f1.rows (f := encL) (p := fun _ => True) decL
  obtain ⟨c2, r2, rfl, f2, h2⟩ := h1.cons_inv
  obtain ⟨x2, rfl, m2, _⟩ := f2.rows (f := encU) (p := fun _ => True) decU
  obtain ⟨c3, r3, rfl, f3, h3⟩ := h2.cons_inv
  obtain ⟨x3, rfl, m3, _⟩ := f3.rows (f := e1) (p := fun _ => True) decI1
  obtain ⟨c4, r4, rfl, f4, h4⟩ := h3.cons_inv
  obtain ⟨x4, rfl, m4, _⟩ := f4.rows (f := encI) (p := fun _ => True) decI
  obtain ⟨c5, r5, rfl, f5, h5⟩ := h4.cons_inv
  obtain ⟨x5, rfl, m5, _⟩ := f5.rows (f := e1) (p := fun _ => True) decI1
  obtain rfl := h5.nil_inv
  exact ⟨⟨⟨x0, x1, x2, x3⟩, x4, x5⟩, rfl, ⟨⟨m0, m1⟩, m2, m3⟩, m4, m5⟩
set_option maxRecDepth 20000
theorem openLI {H : Type} {enc : TypeId × Value → H} {w : World} {base : Nat} {spare : Nat → Bool} {held : Bool} {r : Reach} {b0 : Nat} {v : Value} {d : DataW H} {p : List MemPlace} (hv : Value.okWide Try.prog w r b0 22 v) (h : DataW.Trod enc Try.prog w base spare held 22 v d p) :
    ∃ xs : List Inc, (xs.length ≤ maxLen ∧ ∀ x ∈ xs, True) ∧ Rep w (fun _ => False) (fun _ => none) [] 0 (L 6 (xs.map encI)) v := by
  obtain ⟨c, hf, hr⟩ := open_sl (n := 8) (s := .sl [.int .i64, .int .i64, .int .i64, .int .i64, .int .i64, .int .i64]) Try.underlying22 (by kernel_rfl) hv h
  obtain ⟨xs, rfl, hm, hp⟩ := hf.rows (f := encI) (p := (fun _ => True)) decI
  exact ⟨xs, ⟨hm, hp⟩, hr⟩
theorem openIs {H : Type} {enc : TypeId × Value → H} {w : World} {base : Nat} {spare : Nat → Bool} {held : Bool} {r : Reach} {b0 : Nat} {v : Value} {d : DataW H} {p : List MemPlace} (hv : Value.okWide Try.prog w r b0 33 v) (h : DataW.Trod enc Try.prog w base spare held 33 v d p) :
    ∃ xs : List Int, (xs.length ≤ maxLen ∧ ∀ x ∈ xs, True) ∧ Rep w (fun _ => False) (fun _ => none) [] 0 (L 1 (xs.map e1)) v := by
  obtain ⟨c, hf, hr⟩ := open_sl (n := 8) (s := .sl [.int .i64]) Try.underlying33 (by kernel_rfl) hv h
  obtain ⟨xs, rfl, hm, hp⟩ := hf.rows (f := e1) (p := (fun _ => True)) decI1
  exact ⟨xs, ⟨hm, hp⟩, hr⟩
theorem openOs {H : Type} {enc : TypeId × Value → H} {w : World} {base : Nat} {spare : Nat → Bool} {held : Bool} {r : Reach} {b0 : Nat} {v : Value} {d : DataW H} {p : List MemPlace} (hv : Value.okWide Try.prog w r b0 50 v) (h : DataW.Trod enc Try.prog w base spare held 50 v d p) :
    ∃ xs : List Opr, (xs.length ≤ maxLen ∧ ∀ x ∈ xs, True) ∧ Rep w (fun _ => False) (fun _ => none) [] 0 (L 4 (xs.map encOp)) v := by
  obtain ⟨c, hf, hr⟩ := open_sl (n := 8) (s := .sl [.int .i64, .int .i64, .int .i64, .int .i64]) Try.underlying50 (by kernel_rfl) hv h
  obtain ⟨xs, rfl, hm, hp⟩ := hf.rows (f := encOp) (p := (fun _ => True)) decO
  exact ⟨xs, ⟨hm, hp⟩, hr⟩
theorem openOp {H : Type} {enc : TypeId × Value → H} {w : World} {base : Nat} {spare : Nat → Bool} {held : Bool} {r : Reach} {b0 : Nat} {v : Value} {d : DataW H} {p : List MemPlace} (hv : Value.okWide Try.prog w r b0 28 v) (h : DataW.Trod enc Try.prog w base spare held 28 v d p) :
    ∃ x : Opr, True ∧ Rep w (fun _ => False) (fun _ => none) [] 0 (.agg ((encOp x).map .c)) v := by
  obtain ⟨cs, hf, hr⟩ := open_st (n := 8) (ss := [.int .i64, .int .i64, .int .i64, .int .i64]) Try.underlying28 (by kernel_rfl) hv h
  obtain ⟨x, rfl, hp⟩ := decO cs hf
  exact ⟨x, hp, hr⟩
theorem openM {H : Type} {enc : TypeId × Value → H} {w : World} {base : Nat} {spare : Nat → Bool} {held : Bool} {r : Reach} {b0 : Nat} {v : Value} {d : DataW H} {p : List MemPlace} (hv : Value.okWide Try.prog w r b0 43 v) (h : DataW.Trod enc Try.prog w base spare held 43 v d p) :
    ∃ x : Mp, okM x ∧ Rep w (fun _ => False) (fun _ => none) [] 0 (.agg ((cellsM x).map .c)) v := by
  obtain ⟨cs, hf, hr⟩ := open_st (n := 8) (ss := [.sl [.int .i64, .int .i64], .sl [.int .i64, .int .i64, .int .i64, .int .i64, .int .i64, .int .i64, .int .i64, .int .i64], .sl [.int .i64, .int .i64, .int .i64, .int .i64, .int .i64, .int .i64, .int .i64], .sl [.int .i64]]) Try.underlying43 (by kernel_rfl) hv h
  obtain ⟨x, rfl, hp⟩ := decM cs hf
  exact ⟨x, hp, hr⟩
theorem openSc {H : Type} {enc : TypeId × Value → H} {w : World} {base : Nat} {spare : Nat → Bool} {held : Bool} {r : Reach} {b0 : Nat} {v : Value} {d : DataW H} {p : List MemPlace} (hv : Value.okWide Try.prog w r b0 49 v) (h : DataW.Trod enc Try.prog w base spare held 49 v d p) :
    ∃ x : Scn, okS x ∧ Rep w (fun _ => False) (fun _ => none) [] 0 (.agg ((encSc x).map .c)) v := by
  obtain ⟨cs, hf, hr⟩ := open_st (n := 8) (ss := [.sl [.int .i64, .int .i64], .sl [.int .i64, .int .i64, .int .i64, .int .i64, .int .i64, .int .i64, .int .i64, .int .i64], .sl [.int .i64, .int .i64, .int .i64, .int .i64, .int .i64, .int .i64, .int .i64], .sl [.int .i64], .sl [.int .i64, .int .i64, .int .i64, .int .i64, .int .i64, .int .i64], .sl [.int .i64]]) Try.underlying49 (by kernel_rfl) hv h
  obtain ⟨x, rfl, hp⟩ := decSc cs hf
  exact ⟨x, hp, hr⟩

end Go.Proofs.Ytoeichkblclfaaa
