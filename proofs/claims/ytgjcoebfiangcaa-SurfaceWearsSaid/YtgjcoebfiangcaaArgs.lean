/- How the arguments of the laws read. -/
import Derived.Test.YtgjcoebfiangcaaOpen
import Derived.Test.YtgjcoebfiangcaaAlive
namespace Go.Proofs.Ytgjcoebfiangcaa
open Go.ChangeShapes Go.WideShapes Go.Deep Go.RowKit Go.Joins
/-- A number of 64 bits. -/
def i64 (n : Int) : Prop := -9223372036854775808 ≤ n ∧ n ≤ 9223372036854775807
theorem i64_of {n : Int} (h : (Lit.int .i64 n).wf = true) : i64 n := bounds_i64 h
def wfS (x : Surf) : Prop := i64 x.run ∧ i64 x.groomed ∧ i64 x.traffic
def decS (r : List Int) : Surf := ⟨r[0]!, r[1]!, r[2]!⟩
theorem decS_enc (r : List Int) (h : r.length = 3) : encS (decS r) = r.map (Value.int .i64) := by
  match r, h with
  | [a, b, c], _ => rfl
theorem decS_wf (r : List Int) (h : r.length = 3) (hw : ∀ x ∈ r, (Lit.int .i64 x).wf = true) : wfS (decS r) := by
  match r, h with
  | [a, b, c], _ => exact ⟨i64_of (hw a (by simp)), i64_of (hw b (by simp)), i64_of (hw c (by simp))⟩
section
variable {H : Type} {enc : TypeId × Value → H} {w : World} {base : Nat} {spare : Nat → Bool} {held : Bool}
theorem openS {v : Value} {d : DataW H} {p : List MemPlace} {A : Option Addr} {n c : Nat} (hv : v = .slice A n c) (h : DataW.Trod enc Try.prog w base spare held 22 v d p) :
    ∃ xs : List Surf, (∀ x ∈ xs, wfS x) ∧ Row encS 3 w v xs := by
  obtain ⟨rows, hr, hrow⟩ := open_rows hv Try.underlying22 Try.underlying32 (by kernel_rfl) (by kernel_rfl) (by decide) (fun j f hj => by
    match j, hj with
    | 0, hj => simp at hj; subst hj; exact Try.underlying3
    | 1, hj => simp at hj; subst hj; exact Try.underlying3
    | 2, hj => simp at hj; subst hj; exact Try.underlying3
    | j + 3, hj => simp at hj) h
  refine ⟨rows.map decS, ?_, ?_⟩
  · intro x hx
    obtain ⟨r, hr', rfl⟩ := List.mem_map.1 hx
    exact decS_wf r (hr r hr').1 (hr r hr').2
  · obtain ⟨A', c', rfl, h1, h2, h3⟩ := hrow
    refine ⟨A', c', by simp, by simpa using h1, h2, fun h0 => ?_⟩
    obtain ⟨b, off, rfl, hlt, hc⟩ := h3 (by simpa using h0)
    refine ⟨b, off, rfl, hlt, fun i x hx j u hu => ?_⟩
    rw [List.getElem?_map] at hx
    cases hri : rows[i]? with
    | none => simp [hri] at hx
    | some r =>
      simp [hri] at hx
      subst hx
      rw [decS_enc r (hr r (List.mem_of_getElem? hri)).1] at hu
      exact hc i r hri j u hu
theorem openA {r : Reach} {b0 : Nat} {v : Value} {d : DataW H} {p : List MemPlace} (hv : Value.okWide Try.prog w r b0 32 v) (h : DataW.Trod enc Try.prog w base spare held 32 v d p) :
    ∃ x : Surf, v = .agg #[.int .i64 x.run, .int .i64 x.groomed, .int .i64 x.traffic] ∧ wfS x := by
  obtain ⟨c0, c1, c2, y0, y1, y2, m, rfl, rfl, rfl, hy0, hy1, hy2⟩ := open_agg3 Try.underlying32 (by kernel_rfl) (by kernel_rfl) hv h
  obtain ⟨a, e0, _, wa⟩ := DataW.trod_int Try.underlying3 hy0
  obtain ⟨b, e1, _, wb⟩ := DataW.trod_int Try.underlying3 hy1
  obtain ⟨c, e2, _, wc⟩ := DataW.trod_int Try.underlying3 hy2
  simp at e0 e1 e2
  subst e0 e1 e2
  exact ⟨⟨a, b, c⟩, rfl, i64_of wa, i64_of wb, i64_of wc⟩
end
end Go.Proofs.Ytgjcoebfiangcaa
