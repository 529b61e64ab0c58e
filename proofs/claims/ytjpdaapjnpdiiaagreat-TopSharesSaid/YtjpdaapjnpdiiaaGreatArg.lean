/- A part of the proof. -/
import Derived.Test.YtjpdaapjnpdiiaaGreatY2
import Derived.Test.YtjpdaapjnpdiiaaGreatE4
import Derived.Test.YtjpdaapjnpdiiaaGreatRows
namespace Go.Proofs.YtjpdaapjnpdiiaaGreat
open Go.ChangeShapes Go.WideShapes Go.Deep Go.RowKit Go.Joins
theorem decI (e : List CV) (h : FitsL [.int .i64] e) : ∃ x : Int, e = e1 x ∧ True := by
 obtain ⟨c0, r0, rfl, f0, h0⟩ := h.cons_inv
 obtain ⟨n0, rfl, _⟩ := f0.int_inv
 obtain rfl := h0.nil_inv
 exact ⟨n0, rfl, trivial⟩
theorem decN (e : List CV) (h : FitsL [.int .i64, .int .i64] e) : ∃ x : Node, e = encN x ∧ True := by
 obtain ⟨c0, r0, rfl, f0, h0⟩ := h.cons_inv
 obtain ⟨n0, rfl, _⟩ := f0.int_inv
 obtain ⟨c1, r1, rfl, f1, h1⟩ := h0.cons_inv
 obtain ⟨n1, rfl, _⟩ := f1.int_inv
 obtain rfl := h1.nil_inv
 exact ⟨⟨n0, n1⟩, rfl, trivial⟩
theorem decL (e : List CV) (h : FitsL [.int .i64, .int .i64, .int .i64, .int .i64, .int .i64, .int .i64, .int .i64, .int .i64] e) : ∃ x : Lift, e = encL x ∧ True := by
 obtain ⟨c0, r0, rfl, f0, h0⟩ := h.cons_inv
 obtain ⟨n0, rfl, _⟩ := f0.int_inv
 obtain ⟨c1, r1, rfl, f1, h1⟩ := h0.cons_inv
 obtain ⟨n1, rfl, _⟩ := f1.int_inv
 obtain ⟨c2, r2, rfl, f2, h2⟩ := h1.cons_inv
 obtain ⟨n2, rfl, _⟩ := f2.int_inv
 obtain ⟨c3, r3, rfl, f3, h3⟩ := h2.cons_inv
 obtain ⟨n3, rfl, _⟩ := f3.int_inv
 obtain ⟨c4, r4, rfl, f4, h4⟩ := h3.cons_inv
 obtain ⟨n4, rfl, _⟩ := f4.int_inv
 obtain ⟨c5, r5, rfl, f5, h5⟩ := h4.cons_inv
 obtain ⟨n5, rfl, _⟩ := f5.int_inv
 obtain ⟨c6, r6, rfl, f6, h6⟩ := h5.cons_inv
 obtain ⟨n6, rfl, _⟩ := f6.int_inv
 obtain ⟨c7, r7, rfl, f7, h7⟩ := h6.cons_inv
 obtain ⟨n7, rfl, _⟩ := f7.int_inv
 obtain rfl := h7.nil_inv
 exact ⟨⟨n0, n1, n2, n3, n4, n5, n6, n7⟩, rfl, trivial⟩
theorem decU (e : List CV) (h : FitsL [.int .i64, .int .i64, .int .i64, .int .i64, .int .i64, .int .i64, .int .i64] e) : ∃ x : Rn, e = encU x ∧ True := by
 obtain ⟨c0, r0, rfl, f0, h0⟩ := h.cons_inv
 obtain ⟨n0, rfl, _⟩ := f0.int_inv
 obtain ⟨c1, r1, rfl, f1, h1⟩ := h0.cons_inv
 obtain ⟨n1, rfl, _⟩ := f1.int_inv
 obtain ⟨c2, r2, rfl, f2, h2⟩ := h1.cons_inv
 obtain ⟨n2, rfl, _⟩ := f2.int_inv
 obtain ⟨c3, r3, rfl, f3, h3⟩ := h2.cons_inv
 obtain ⟨n3, rfl, _⟩ := f3.int_inv
 obtain ⟨c4, r4, rfl, f4, h4⟩ := h3.cons_inv
 obtain ⟨n4, rfl, _⟩ := f4.int_inv
 obtain ⟨c5, r5, rfl, f5, h5⟩ := h4.cons_inv
 obtain ⟨n5, rfl, _⟩ := f5.int_inv
 obtain ⟨c6, r6, rfl, f6, h6⟩ := h5.cons_inv
 obtain ⟨n6, rfl, _⟩ := f6.int_inv
 obtain rfl := h6.nil_inv
 exact ⟨⟨n0, n1, n2, n3, n4, n5, n6⟩, rfl, trivial⟩
theorem decD (e : List CV) (h : FitsL [.int .i64, .int .i64, .int .i64, .int .i64, .int .i64, .int .i64, .int .i64] e) : ∃ x : Ride, e = encD x ∧ True := by
 obtain ⟨c0, r0, rfl, f0, h0⟩ := h.cons_inv
 obtain ⟨n0, rfl, _⟩ := f0.int_inv
 obtain ⟨c1, r1, rfl, f1, h1⟩ := h0.cons_inv
 obtain ⟨n1, rfl, _⟩ := f1.int_inv
 obtain ⟨c2, r2, rfl, f2, h2⟩ := h1.cons_inv
 obtain ⟨n2, rfl, _⟩ := f2.int_inv
 obtain ⟨c3, r3, rfl, f3, h3⟩ := h2.cons_inv
 obtain ⟨n3, rfl, _⟩ := f3.int_inv
 obtain ⟨c4, r4, rfl, f4, h4⟩ := h3.cons_inv
 obtain ⟨n4, rfl, _⟩ := f4.int_inv
 obtain ⟨c5, r5, rfl, f5, h5⟩ := h4.cons_inv
 obtain ⟨n5, rfl, _⟩ := f5.int_inv
 obtain ⟨c6, r6, rfl, f6, h6⟩ := h5.cons_inv
 obtain ⟨n6, rfl, _⟩ := f6.int_inv
 obtain rfl := h6.nil_inv
 exact ⟨⟨n0, n1, n2, n3, n4, n5, n6⟩, rfl, trivial⟩
theorem decE (e : List CV) (h : FitsL [.int .i64, .int .i64, .int .i64, .int .i64, .int .i64, .int .i64] e) : ∃ x : Sale, e = encE x ∧ True := by
 obtain ⟨c0, r0, rfl, f0, h0⟩ := h.cons_inv
 obtain ⟨n0, rfl, _⟩ := f0.int_inv
 obtain ⟨c1, r1, rfl, f1, h1⟩ := h0.cons_inv
 obtain ⟨n1, rfl, _⟩ := f1.int_inv
 obtain ⟨c2, r2, rfl, f2, h2⟩ := h1.cons_inv
 obtain ⟨n2, rfl, _⟩ := f2.int_inv
 obtain ⟨c3, r3, rfl, f3, h3⟩ := h2.cons_inv
 obtain ⟨n3, rfl, _⟩ := f3.int_inv
 obtain ⟨c4, r4, rfl, f4, h4⟩ := h3.cons_inv
 obtain ⟨n4, rfl, _⟩ := f4.int_inv
 obtain ⟨c5, r5, rfl, f5, h5⟩ := h4.cons_inv
 obtain ⟨n5, rfl, _⟩ := f5.int_inv
 obtain rfl := h5.nil_inv
 exact ⟨⟨n0, n1, n2, n3, n4, n5⟩, rfl, trivial⟩
theorem decH (e : List CV) (h : FitsL [.int .i64, .int .i64, .int .i64] e) : ∃ x : Hours, e = encH x ∧ True := by
 obtain ⟨c0, r0, rfl, f0, h0⟩ := h.cons_inv
 obtain ⟨n0, rfl, _⟩ := f0.int_inv
 obtain ⟨c1, r1, rfl, f1, h1⟩ := h0.cons_inv
 obtain ⟨n1, rfl, _⟩ := f1.int_inv
 obtain ⟨c2, r2, rfl, f2, h2⟩ := h1.cons_inv
 obtain ⟨n2, rfl, _⟩ := f2.int_inv
 obtain rfl := h2.nil_inv
 exact ⟨⟨n0, n1, n2⟩, rfl, trivial⟩
theorem decR (e : List CV) (h : FitsL [.int .i64, .int .i64, .int .i64, .sl [.int .i64, .int .i64, .int .i64]] e) : ∃ x : Rate, e = encR x ∧ x.peak.length ≤ 9223372036854775807 := by
 obtain ⟨c0, r0, rfl, f0, h0⟩ := h.cons_inv
 obtain ⟨n0, rfl, _⟩ := f0.int_inv
 obtain ⟨c1, r1, rfl, f1, h1⟩ := h0.cons_inv
 obtain ⟨n1, rfl, _⟩ := f1.int_inv
 obtain ⟨c2, r2, rfl, f2, h2⟩ := h1.cons_inv
 obtain ⟨n2, rfl, _⟩ := f2.int_inv
 obtain ⟨c3, r3, rfl, f3, h3⟩ := h2.cons_inv
 obtain ⟨xs, rfl, hm, _⟩ := f3.rows (f := encH) (p := fun _ => True) decH
 obtain rfl := h3.nil_inv
 exact ⟨⟨n0, n1, n2, xs⟩, rfl, hm⟩
theorem decT (e : List CV) (h : FitsL [.int .i64, .sl [.int .i64, .int .i64, .int .i64, .sl [.int .i64, .int .i64, .int .i64]]] e) : ∃ x : Tariff, e = encT x ∧ (x.rates.length ≤ 9223372036854775807 ∧ ∀ y ∈ x.rates, y.peak.length ≤ 9223372036854775807) := by
 obtain ⟨c0, r0, rfl, f0, h0⟩ := h.cons_inv
 obtain ⟨n0, rfl, _⟩ := f0.int_inv
 obtain ⟨c1, r1, rfl, f1, h1⟩ := h0.cons_inv
 obtain ⟨xs, rfl, hm, hp⟩ := f1.rows (f := encR) (p := fun y => y.peak.length ≤ 9223372036854775807) decR
 obtain rfl := h1.nil_inv
 exact ⟨⟨n0, xs⟩, rfl, hm, hp⟩
abbrev cellsM (m : Mp) : List CV := [.sl 2 (m.nodes.map encN), .sl 8 (m.lifts.map encL), .sl 7 (m.runs.map encU), .sl 1 (m.bases.map e1)]
theorem decM (e : List CV) (h : FitsL [.sl [.int .i64, .int .i64], .sl [.int .i64, .int .i64, .int .i64, .int .i64, .int .i64, .int .i64, .int .i64, .int .i64], .sl [.int .i64, .int .i64, .int .i64, .int .i64, .int .i64, .int .i64, .int .i64], .sl [.int .i64]] e) : ∃ x : Mp, e = cellsM x ∧ okM x := by
 obtain ⟨c0, r0, rfl, f0, h0⟩ := h.cons_inv
 obtain ⟨x0, rfl, m0, _⟩ := f0.rows (f := encN) (p := fun _ => True) decN
 obtain ⟨c1, r1, rfl, f1, h1⟩ := h0.cons_inv
 obtain ⟨x1, rfl, m1, _⟩ := f1.rows (f := encL) (p := fun _ => True) decL
 obtain ⟨c2, r2, rfl, f2, h2⟩ := h1.cons_inv
 obtain ⟨x2, rfl, m2, _⟩ := f2.rows (f := encU) (p := fun _ => True) decU
 obtain ⟨c3, r3, rfl, f3, h3⟩ := h2.cons_inv
 obtain ⟨x3, rfl, m3, _⟩ := f3.rows (f := e1) (p := fun _ => True) decI
 obtain rfl := h3.nil_inv
 exact ⟨⟨x0, x1, x2, x3⟩, rfl, ⟨⟨m0, m1⟩, m2, m3⟩⟩
set_option maxRecDepth 20000
theorem openE {H : Type} {enc : TypeId × Value → H} {w : World} {base : Nat} {spare : Nat → Bool} {held : Bool} {r : Reach} {b0 : Nat} {v : Value} {d : DataW H} {p : List MemPlace} (hv : Value.okWide Tryz.prog w r b0 30 v) (h : DataW.Trod enc Tryz.prog w base spare held 30 v d p) :
   ∃ xs : List Sale, (xs.length ≤ maxLen ∧ ∀ x ∈ xs, True) ∧ Rep w (fun _ => False) (fun _ => none) [] 0 (L 6 (xs.map encE)) v := by
 obtain ⟨c, hf, hr⟩ := open_sl (n := 8) (s := .sl [.int .i64, .int .i64, .int .i64, .int .i64, .int .i64, .int .i64]) Tryz.underlying30 (by kernel_rfl) hv h
 obtain ⟨xs, rfl, hm, hp⟩ := hf.rows (f := encE) (p := (fun _ => True)) decE
 exact ⟨xs, ⟨hm, hp⟩, hr⟩
theorem openD {H : Type} {enc : TypeId × Value → H} {w : World} {base : Nat} {spare : Nat → Bool} {held : Bool} {r : Reach} {b0 : Nat} {v : Value} {d : DataW H} {p : List MemPlace} (hv : Value.okWide Tryz.prog w r b0 29 v) (h : DataW.Trod enc Tryz.prog w base spare held 29 v d p) :
   ∃ xs : List Ride, (xs.length ≤ maxLen ∧ ∀ x ∈ xs, True) ∧ Rep w (fun _ => False) (fun _ => none) [] 0 (L 7 (xs.map encD)) v := by
 obtain ⟨c, hf, hr⟩ := open_sl (n := 8) (s := .sl [.int .i64, .int .i64, .int .i64, .int .i64, .int .i64, .int .i64, .int .i64]) Tryz.underlying29 (by kernel_rfl) hv h
 obtain ⟨xs, rfl, hm, hp⟩ := hf.rows (f := encD) (p := (fun _ => True)) decD
 exact ⟨xs, ⟨hm, hp⟩, hr⟩
def okTar (x : Tariff) : Prop := x.rates.length ≤ 9223372036854775807 ∧ ∀ y ∈ x.rates, y.peak.length ≤ 9223372036854775807
theorem openT {H : Type} {enc : TypeId × Value → H} {w : World} {base : Nat} {spare : Nat → Bool} {held : Bool} {r : Reach} {b0 : Nat} {v : Value} {d : DataW H} {p : List MemPlace} (hv : Value.okWide Tryz.prog w r b0 28 v) (h : DataW.Trod enc Tryz.prog w base spare held 28 v d p) :
   ∃ xs : List Tariff, (xs.length ≤ maxLen ∧ ∀ x ∈ xs, okTar x) ∧ Rep w (fun _ => False) (fun _ => none) [] 0 (L 2 (xs.map encT)) v := by
 obtain ⟨c, hf, hr⟩ := open_sl (n := 8) (s := .sl [.int .i64, .sl [.int .i64, .int .i64, .int .i64, .sl [.int .i64, .int .i64, .int .i64]]]) Tryz.underlying28 (by kernel_rfl) hv h
 obtain ⟨xs, rfl, hm, hp⟩ := hf.rows (f := encT) (p := okTar) decT
 exact ⟨xs, ⟨hm, hp⟩, hr⟩
theorem openM {H : Type} {enc : TypeId × Value → H} {w : World} {base : Nat} {spare : Nat → Bool} {held : Bool} {r : Reach} {b0 : Nat} {v : Value} {d : DataW H} {p : List MemPlace} (hv : Value.okWide Tryz.prog w r b0 27 v) (h : DataW.Trod enc Tryz.prog w base spare held 27 v d p) :
   ∃ x : Mp, okM x ∧ Rep w (fun _ => False) (fun _ => none) [] 0 (.agg ((cellsM x).map .c)) v := by
 obtain ⟨cs, hf, hr⟩ := open_st (n := 8) (ss := [.sl [.int .i64, .int .i64], .sl [.int .i64, .int .i64, .int .i64, .int .i64, .int .i64, .int .i64, .int .i64, .int .i64], .sl [.int .i64, .int .i64, .int .i64, .int .i64, .int .i64, .int .i64, .int .i64], .sl [.int .i64]]) Tryz.underlying27 (by kernel_rfl) hv h
 obtain ⟨x, rfl, hp⟩ := decM cs hf
 exact ⟨x, hp, hr⟩
end Go.Proofs.YtjpdaapjnpdiiaaGreat
