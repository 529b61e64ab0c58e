/- Periods: how the arguments of the laws read. -/
import Derived.Test.YtpkhannkbafimaaGreatRI
import Derived.Test.YtpkhannkbafimaaGreatE4
import Derived.Test.YtpkhannkbafimaaGreatRows
namespace Go.Proofs.YtpkhannkbafimaaGreat
open Go.ChangeShapes Go.WideShapes Go.Deep Go.RowKit Go.Joins
theorem decS (e : List CV) (h : FitsL [.int .i64, .int .i64] e) : ∃ x : Share, e = encS x ∧ True := by
  obtain ⟨c0, r0, rfl, f0, h0⟩ := h.cons_inv
  obtain ⟨n0, rfl, _⟩ := f0.int_inv
  obtain ⟨c1, r1, rfl, f1, h1⟩ := h0.cons_inv
  obtain ⟨n1, rfl, _⟩ := f1.int_inv
  obtain rfl := h1.nil_inv
  exact ⟨⟨n0, n1⟩, rfl, trivial⟩
theorem decO (e : List CV) (h : FitsL [.int .i64, .int .i64, .int .i64, .int .i64] e) : ∃ x : Pst, e = encO x ∧ True := by
  obtain ⟨c0, r0, rfl, f0, h0⟩ := h.cons_inv
  obtain ⟨n0, rfl, _⟩ := f0.int_inv
  obtain ⟨c1, r1, rfl, f1, h1⟩ := h0.cons_inv
  obtain ⟨n1, rfl, _⟩ := f1.int_inv
  obtain ⟨c2, r2, rfl, f2, h2⟩ := h1.cons_inv
  obtain ⟨n2, rfl, _⟩ := f2.int_inv
  obtain ⟨c3, r3, rfl, f3, h3⟩ := h2.cons_inv
  obtain ⟨n3, rfl, _⟩ := f3.int_inv
  obtain rfl := h3.nil_inv
  exact ⟨⟨n0, n1, n2, n3⟩, rfl, trivial⟩
theorem decC (e : List CV) (h : FitsL [.int .i64, .int .i64, .int .i64, .int .i64, .int .i64, .int .i64, .int .i64, .int .i64] e) : ∃ x : Cnt, e = encC x ∧ True := by
  obtain ⟨c0, r0, rfl, f0, h0⟩ := h.cons_inv
  obtain ⟨n0, rfl, _⟩ := f0.int_inv
  obtain ⟨c1, r1, rfl, f1, h1⟩ := h0.cons_inv
  obtain ⟨n1, rfl, _⟩ := f1.int_inv
  obtain ⟨c2, r2, rfl, f2, h2⟩ := h1.cons_inv
  obtain ⟨n2, rfl, _⟩ := f2.int_inv
  obtain ⟨c3, r3, rfl, f3, h3⟩ := h2.cons_inv
  obtain ⟨n3, rfl, _⟩ := f3.int_inv
  obtain ⟨c4, r4, rfl, f4, h4⟩ := h3.cons_inv
  obtain ⟨n4, rfl, _⟩ := f4.int_inv
  obtain ⟨c5, r5, rfl, f5, h5⟩ := h4.cons_inv
  obtain ⟨n5, rfl, _⟩ := f5.int_inv
  obtain ⟨c6, r6, rfl, f6, h6⟩ := h5.cons_inv
  obtain ⟨n6, rfl, _⟩ := f6.int_inv
  obtain ⟨c7, r7, rfl, f7, h7⟩ := h6.cons_inv
  obtain ⟨n7, rfl, _⟩ := f7.int_inv
  obtain rfl := h7.nil_inv
  exact ⟨⟨n0, ⟨n1, n2, n3, n4, n5, n6, n7⟩⟩, rfl, trivial⟩
theorem decP (e : List CV) (h : FitsL [.int .i64, .int .i64, .int .i64, .bool, .sl [.int .i64, .int .i64]] e) : ∃ x : Per, e = encP x ∧ x.sh.length ≤ 9223372036854775807 := by
  obtain ⟨c0, r0, rfl, f0, h0⟩ := h.cons_inv
  obtain ⟨n0, rfl, _⟩ := f0.int_inv
  obtain ⟨c1, r1, rfl, f1, h1⟩ := h0.cons_inv
  obtain ⟨n1, rfl, _⟩ := f1.int_inv
  obtain ⟨c2, r2, rfl, f2, h2⟩ := h1.cons_inv
  obtain ⟨n2, rfl, _⟩ := f2.int_inv
  obtain ⟨c3, r3, rfl, f3, h3⟩ := h2.cons_inv
  obtain ⟨n3, rfl⟩ := f3.bool_inv
  obtain ⟨c4, r4, rfl, f4, h4⟩ := h3.cons_inv
  obtain ⟨xs, rfl, hm, _⟩ := f4.rows (f := encS) (p := fun _ => True) decS
  obtain rfl := h4.nil_inv
  exact ⟨⟨n0, n1, n2, n3, xs⟩, rfl, hm⟩
abbrev encBk (b : Bk) : List CV := [.sl 5 (b.ps.map encP), .sl 4 (b.po.map encO), .sl 8 (b.rs.map encC)]
theorem decB (e : List CV) (h : FitsL [.sl [.int .i64, .int .i64, .int .i64, .bool, .sl [.int .i64, .int .i64]], .sl [.int .i64, .int .i64, .int .i64, .int .i64], .sl [.int .i64, .int .i64, .int .i64, .int .i64, .int .i64, .int .i64, .int .i64, .int .i64]] e) : ∃ x : Bk, e = encBk x ∧ okB x := by
  obtain ⟨c0, r0, rfl, f0, h0⟩ := h.cons_inv
  obtain ⟨x0, rfl, m0, p0⟩ := f0.rows (f := encP) (p := fun x => x.sh.length ≤ 9223372036854775807) decP
  obtain ⟨c1, r1, rfl, f1, h1⟩ := h0.cons_inv
  obtain ⟨x1, rfl, m1, _⟩ := f1.rows (f := encO) (p := fun _ => True) decO
  obtain ⟨c2, r2, rfl, f2, h2⟩ := h1.cons_inv
  obtain ⟨x2, rfl, m2, _⟩ := f2.rows (f := encC) (p := fun _ => True) decC
  obtain rfl := h2.nil_inv
  exact ⟨⟨x0, x1, x2⟩, rfl, ⟨⟨m0, m1⟩, m2, p0⟩⟩
/-- An operation. -/
structure Opp where
  kind : Int
  to : Int
  num : Int
  r : Ride
  due : List Share
  rcv : List Share
set_option maxRecDepth 20000
theorem openS {H : Type} {enc : TypeId × Value → H} {w : World} {base : Nat} {spare : Nat → Bool} {held : Bool} {r : Reach} {b0 : Nat} {v : Value} {d : DataW H} {p : List MemPlace} (hv : Value.okWide Tryz.prog w r b0 47 v) (h : DataW.Trod enc Tryz.prog w base spare held 47 v d p) :
    ∃ xs : List Share, (xs.length ≤ maxLen ∧ ∀ x ∈ xs, True) ∧ Rep w (fun _ => False) (fun _ => none) [] 0 (L 2 (xs.map encS)) v := by
  obtain ⟨c, hf, hr⟩ := open_sl (n := 8) (s := .sl [.int .i64, .int .i64]) Tryz.underlying47 (by kernel_rfl) hv h
  obtain ⟨xs, rfl, hm, hp⟩ := hf.rows (f := encS) (p := (fun _ => True)) decS
  exact ⟨xs, ⟨hm, hp⟩, hr⟩
theorem openB {H : Type} {enc : TypeId × Value → H} {w : World} {base : Nat} {spare : Nat → Bool} {held : Bool} {r : Reach} {b0 : Nat} {v : Value} {d : DataW H} {p : List MemPlace} (hv : Value.okWide Tryz.prog w r b0 26 v) (h : DataW.Trod enc Tryz.prog w base spare held 26 v d p) :
    ∃ x : Bk, okB x ∧ Rep w (fun _ => False) (fun _ => none) [] 0 (.agg ((encBk x).map .c)) v := by
  obtain ⟨cs, hf, hr⟩ := open_st (n := 8) (ss := [.sl [.int .i64, .int .i64, .int .i64, .bool, .sl [.int .i64, .int .i64]], .sl [.int .i64, .int .i64, .int .i64, .int .i64], .sl [.int .i64, .int .i64, .int .i64, .int .i64, .int .i64, .int .i64, .int .i64, .int .i64]]) Tryz.underlying26 (by kernel_rfl) hv h
  obtain ⟨x, rfl, hp⟩ := decB cs hf
  exact ⟨x, hp, hr⟩
end Go.Proofs.YtpkhannkbafimaaGreat
