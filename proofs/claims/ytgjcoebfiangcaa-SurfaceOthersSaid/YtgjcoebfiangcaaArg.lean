/- Surfaces: the examples of the chapter hold; how the arguments of the law read. -/
import Derived.Test.YtgjcoebfiangcaaY2
import Derived.Test.YtgjcoebfiangcaaZAlive
import Derived.Test.YtgjcoebfiangcaaE4
import Derived.Test.YtgjcoebfiangcaaRows
namespace Go.Proofs.Ytgjcoebfiangcaa
open Go.ChangeShapes Go.WideShapes Go.Deep Go.RowKit Go.Joins
abbrev aliveS : Spec := spec Unit (fun _ => []) (fun _ => True) (fun _ => B true)
theorem alive_h : Holds Try.prog 11 aliveS := by
  intro _ F w vs _ _ hr
  obtain ⟨h1, _⟩ := hr
  have hv : vs = [] := List.eq_nil_of_length_eq_zero h1.symm
  subst hv
  refine Calls.mono (Old.alive_any w) fun e w' ⟨he, hb⟩ => ?_
  refine ⟨_, fun _ => none, he, hb, fun h => (by cases h), ?_, ?_, ?_⟩
  · exact .c _ _ (.bool _)
  · intro id o h; cases h
  · intro id id' o o' b c c' h; cases h
theorem decS (e : List CV) (h : FitsL [.int .i64, .int .i64, .int .i64] e) : ∃ x : Sf, e = encS x ∧ True := by
  obtain ⟨c0, r0, rfl, f0, h0⟩ := h.cons_inv
  obtain ⟨n0, rfl, _⟩ := f0.int_inv
  obtain ⟨c1, r1, rfl, f1, h1⟩ := h0.cons_inv
  obtain ⟨n1, rfl, _⟩ := f1.int_inv
  obtain ⟨c2, r2, rfl, f2, h2⟩ := h1.cons_inv
  obtain ⟨n2, rfl, _⟩ := f2.int_inv
  obtain rfl := h2.nil_inv
  exact ⟨⟨n0, n1, n2⟩, rfl, trivial⟩
set_option maxRecDepth 20000
theorem openS {H : Type} {enc : TypeId × Value → H} {w : World} {base : Nat} {spare : Nat → Bool} {held : Bool} {r : Reach} {b0 : Nat} {v : Value} {d : DataW H} {p : List MemPlace} (hv : Value.okWide Try.prog w r b0 22 v) (h : DataW.Trod enc Try.prog w base spare held 22 v d p) :
    ∃ xs : List Sf, (xs.length ≤ maxLen ∧ ∀ x ∈ xs, True) ∧ Rep w (fun _ => False) (fun _ => none) [] 0 (L 3 (xs.map encS)) v := by
  obtain ⟨c, hf, hr⟩ := open_sl (n := 8) (s := .sl [.int .i64, .int .i64, .int .i64]) Try.underlying22 (by kernel_rfl) hv h
  obtain ⟨xs, rfl, hm, hp⟩ := hf.rows (f := encS) (p := (fun _ => True)) decS
  exact ⟨xs, ⟨hm, hp⟩, hr⟩

end Go.Proofs.Ytgjcoebfiangcaa
