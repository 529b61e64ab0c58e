/- Arguments opened: slices of structs of integers, structs of integers. No program in sight. -/
import Derived.Test.YtgjcoebfiangcaaMem
import Derived.Deep.Slices
import Derived.Deep.Fields
import Derived.ChangeSame
import Derived.ProofKit
import Derived.Lib.SmallJoins
import Derived.OpenShut
import Derived.ChangeOld
namespace Go.Proofs.Ytgjcoebfiangcaa
open Go.ChangeShapes Go.WideShapes Go.Deep Go.RowKit
section
variable {H : Type} {enc : TypeId × Value → H} {P : Program} {w : World} {base : Nat} {spare : Nat → Bool} {held : Bool}
theorem open_slice_fields {t e : TypeId} {fs : Array Field} {fuel : Nat} {cs : List Value} {x : DataW H × List MemPlace} (ht : P.underlying t = some (.slice e)) (he : P.underlying e = some (.struct fs))
    (hone : oneCellFields P fs = true) (hC : P.cellsOf e = fs.size) (h : DataW.trod enc P w base spare held fuel t cs = some x) :
    (cs = [.slice none 0 0] ∧ x = (.nil, [])) ∨
    ∃ (a : Addr) (len cap m : Nat) (D : Nat → DataW H) (Pl : Nat → List MemPlace), cs = [.slice (some a) len cap] ∧ base ≤ a.block ∧ len ≤ cap ∧ cap ≤ maxLen ∧ m = (if spare a.block then cap else len) ∧
      x = (.slice ((List.range len).map D) ((List.range (m - len)).map fun j => D (len + j)), MemPlace.row a (m * fs.size) ++ (List.range m).flatMap Pl) ∧
      ∀ i, i < m → ∃ (ys : List (DataW H × List MemPlace)) (n : Nat), D i = .agg (ys.map (·.1)) ∧ Pl i = ys.flatMap (·.2) ∧ ys.length = fs.size ∧
        ∀ (j : Nat) (f : Field), fs[j]? = some f → ∃ (v : Value) (y : DataW H × List MemPlace), w.cell? (a.add (i * fs.size + j)) = some v ∧ ys[j]? = some y ∧ DataW.trod enc P w base spare held n f.type [v] = some y := by
  rcases open_slice ht h with h0 | ⟨a, len, cap, m, n, D, Pl, hcs, hb, hl, hm, hmm, hx, hi⟩
  · exact .inl h0
  · refine .inr ⟨a, len, cap, m, D, Pl, hcs, hb, hl, hm, hmm, by rw [hC] at hx; exact hx, fun i him => ?_⟩
    obtain ⟨cs', hc, ht'⟩ := hi i him
    rw [hC] at hc
    obtain ⟨ys, n', hn', hy, hlen, hyl, hf⟩ := DataW.trod_struct he ht'
    obtain ⟨_, hcl, hat⟩ := World.cells?_some hc
    simp only [Prod.mk.injEq] at hy
    refine ⟨ys, n', hy.1, hy.2, hyl, fun j f hj => ?_⟩
    obtain ⟨ho, hk⟩ := hone_of hone j f hj
    have hjl : j < fs.size := (Array.getElem?_eq_some_iff.1 hj).1
    have hcell := hat j hjl
    have hv : cs'[j]? = some (cs'[j]'(by omega)) := List.getElem?_eq_getElem (by omega)
    have h1 := hf j f hj
    rw [ho, hk] at h1
    have hone' : (cs'.drop j).take 1 = [cs'[j]'(by omega)] := by
      rw [List.drop_eq_getElem_cons (by omega)]
      rfl
    rw [hone'] at h1
    have hys : ys[j]? = some (ys[j]'(by omega)) := List.getElem?_eq_getElem (by omega)
    refine ⟨_, _, ?_, hys, h1.trans hys⟩
    rw [← Go.Deep.add_add, hcell, hv]
end

theorem cell_spot {w : World} {a : Addr} {v : Value} (h : w.cell? a = some v) : a.spot = none ∧ a.block < w.heap.size := by
  unfold World.cell? at h
  split at h
  · rename_i hb
    constructor
    · cases hs : a.spot with
      | none => rfl
      | some _ => simp [hs] at h
    · rcases Nat.lt_or_ge a.block w.heap.size with h' | h'
      · exact h'
      · rw [Array.getElem?_eq_none h'] at hb; cases hb
  · cases h

section
variable {H : Type} {enc : TypeId × Value → H} {P : Program} {w : World} {base : Nat} {spare : Nat → Bool} {held : Bool}
/-- A slice of structs of integers that came in reads as a list. -/
theorem open_rows {t e : TypeId} {fs : Array Field} {v : Value} {d : DataW H} {p : List MemPlace} {A : Option Addr} {n c : Nat} (hv : v = .slice A n c) (ht : P.underlying t = some (.slice e)) (he : P.underlying e = some (.struct fs))
    (hone : oneCellFields P fs = true) (hC : P.cellsOf e = fs.size) (hpos : 0 < fs.size) (hint : ∀ (j : Nat) (f : Field), fs[j]? = some f → P.underlying f.type = some (.int .i64)) (h : DataW.Trod enc P w base spare held t v d p) :
    ∃ rows : List (List Int), (∀ r ∈ rows, r.length = fs.size ∧ ∀ x ∈ r, (Lit.int .i64 x).wf = true) ∧ Row (fun r : List Int => r.map (Value.int .i64)) fs.size w v rows := by
  subst hv
  obtain ⟨fuel, hf⟩ := h
  rcases open_slice_fields ht he hone hC hf with ⟨hcs, _⟩ | ⟨a, len, cap, m, D, Pl, hcs, _, hl, hm, hmm, _, hi⟩
  · simp only [Value.cells] at hcs
    simp at hcs
    obtain ⟨rfl, rfl, rfl⟩ := hcs
    exact ⟨[], by simp, Row.nil 0 (by omega) none⟩
  · simp [Value.cells] at hcs
    obtain ⟨rfl, rfl, rfl⟩ := hcs
    have hlm : n ≤ m := by rw [hmm]; split <;> omega
    have hex : ∀ i j, i < n → j < fs.size → ∃ x : Int, w.cell? (a.add (i * fs.size + j)) = some (.int .i64 x) ∧ (Lit.int .i64 x).wf = true := by
      intro i j hi' hj
      obtain ⟨ys, m', _, _, _, hfld⟩ := hi i (by omega)
      obtain ⟨u, y, hcell, _, htr⟩ := hfld j fs[j] (Array.getElem?_eq_getElem hj)
      obtain ⟨x, e0, _, wx⟩ := DataW.trod_int (hint j fs[j] (Array.getElem?_eq_getElem hj)) htr
      simp at e0
      subst e0
      exact ⟨x, hcell, wx⟩
    let f : Nat → Nat → Int := fun i j => if h : i < n ∧ j < fs.size then Classical.choose (hex i j h.1 h.2) else 0
    have hf' : ∀ i j, i < n → j < fs.size → w.cell? (a.add (i * fs.size + j)) = some (.int .i64 (f i j)) ∧ (Lit.int .i64 (f i j)).wf = true := by
      intro i j h1 h2
      have : f i j = Classical.choose (hex i j h1 h2) := by simp [f, h1, h2]
      rw [this]
      exact Classical.choose_spec (hex i j h1 h2)
    refine ⟨(List.range n).map fun i => (List.range fs.size).map (f i), ?_, some a, c, by simp, by simpa using hl, by unfold maxLen at hm; omega, fun h0 => ?_⟩
    · intro r hr
      obtain ⟨i, hi', rfl⟩ := List.mem_map.1 hr
      refine ⟨by simp, fun x hx => ?_⟩
      obtain ⟨j, hj, rfl⟩ := List.mem_map.1 hx
      exact (hf' i j (by simpa using hi') (by simpa using hj)).2
    · have hn : 0 < n := by simpa using h0
      obtain ⟨hsp, hbl⟩ := cell_spot (hf' 0 0 hn hpos).1
      obtain ⟨b, off, sp⟩ := a
      have hs0 : sp = none := by simpa [Addr.add] using hsp
      subst hs0
      have ea : ∀ q, (⟨b, off, none⟩ : Addr).add q = ⟨b, off + q, none⟩ := by intro q; unfold Addr.add; split <;> simp_all
      refine ⟨b, off, rfl, by simpa [Addr.add] using hbl, fun i r hr j u hu => ?_⟩
      obtain ⟨hi', hr'⟩ := List.getElem?_eq_some_iff.1 hr
      have hin : i < n := by simpa using hi'
      simp at hr'
      subst hr'
      have hj : j < fs.size := by have := (List.getElem?_eq_some_iff.1 hu).1; simpa using this
      have h1 := (hf' i j hin hj).1
      rw [ea] at h1
      simp [hj] at hu
      rw [Nat.add_assoc, h1, hu]
end
end Go.Proofs.Ytgjcoebfiangcaa
