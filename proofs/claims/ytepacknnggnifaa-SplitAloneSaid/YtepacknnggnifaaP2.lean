/- The join of two parts in order, and halves: plain. No program in sight. -/
import Derived.Test.YtepacknnggnifaaP1
namespace Go.Proofs.Ytepacknnggnifaa
open Go.RowKit

theorem inR_u64 {n : Int} (h0 : 0 ≤ n) (h1 : n < 18446744073709551616) : inR .u64 n := by
  show IntKind.wrap .u64 n = n
  simp only [IntKind.wrap, IntKind.bits, IntKind.signed]
  simp
  omega
theorem half (n : Int) : n.fdiv (2 ^ Nat.min ((1 : Int).toNat) (IntKind.bits .u64)) = n / 2 := by
  show n.fdiv 2 = n / 2
  exact Int.fdiv_eq_ediv_of_nonneg n (by omega)
/-- A list in order: its keys do not rise. -/
theorem key_mono {f : Int → Int} {l : List Int} (h : l.Pairwise (bef f)) {p q : Nat} {x y : Int} (hx : l[p]? = some x) (hy : l[q]? = some y) (hpq : p ≤ q) : f y ≤ f x := by
  by_cases e : p = q
  · subst e; rw [hx] at hy; cases hy; omega
  · obtain ⟨h1, rfl⟩ := List.getElem?_eq_some_iff.1 hx
    obtain ⟨h2, rfl⟩ := List.getElem?_eq_some_iff.1 hy
    have := List.pairwise_iff_getElem.1 h p q h1 h2 (by omega)
    unfold bef at this; omega
theorem take_key {f : Int → Int} {l : List Int} (h : l.Pairwise (bef f)) {u : Nat} {y z : Int} (hy : l[u - 1]? = some y) (hz : z ∈ l.take u) : f y ≤ f z := by
  obtain ⟨p, hp⟩ := List.getElem?_of_mem hz
  rw [List.getElem?_take] at hp
  split at hp
  · exact key_mono h hp hy (by omega)
  · cases hp
theorem drop_key {f : Int → Int} {l : List Int} (h : l.Pairwise (bef f)) {u : Nat} {y z : Int} (hy : l[u]? = some y) (hz : z ∈ l.drop u) : f z ≤ f y := by
  obtain ⟨p, hp⟩ := List.getElem?_of_mem hz
  rw [List.getElem?_drop] at hp
  exact key_mono h hy hp (by omega)
/-- One number is put into a list in order. -/
theorem put_in {f : Int → Int} {B R : List Int} {x : Int} {u : Nat} (hB : B.Pairwise (bef f)) (hR : SortedOf f (x :: B) R) (h1 : ∀ y ∈ B.take u, bef f y x) (h2 : ∀ y ∈ B.drop u, bef f x y) : R = B.take u ++ x :: B.drop u := by
  refine sorted_uniq hR ⟨?_, ?_⟩
  · refine List.perm_middle.trans ?_
    rw [List.take_append_drop]
  · have h3 : (B.take u ++ B.drop u).Pairwise (bef f) := by rw [List.take_append_drop]; exact hB
    rw [List.pairwise_append] at h3 ⊢
    refine ⟨h3.1, List.pairwise_cons.2 ⟨h2, h3.2.1⟩, fun a ha b hb => ?_⟩
    rcases List.mem_cons.1 hb with rfl | hb
    · exact h1 a ha
    · exact h3.2.2 a ha b hb
theorem put_left {f : Int → Int} {B R : List Int} {x : Int} {u : Nat} (hB : B.Pairwise (bef f)) (hs : ∀ y ∈ B, stb f x y) (hR : SortedOf f ([x] ++ B) R) (h1 : u = 0 ∨ ∃ y, B[u - 1]? = some y ∧ f x < f y) (h2 : u = B.length ∨ ∃ y, B[u]? = some y ∧ f y ≤ f x) : R = B.take u ++ x :: B.drop u := by
  refine put_in hB hR (fun y hy => ?_) (fun y hy => ?_)
  · rcases h1 with rfl | ⟨z, hz, hlt⟩
    · simp at hy
    · have := take_key hB hz hy; exact .inl (by omega)
  · rcases h2 with rfl | ⟨z, hz, hle⟩
    · rw [List.drop_length] at hy; simp at hy
    · have := drop_key hB hz hy; exact bef_of (hs y (List.mem_of_mem_drop hy)) (by omega)
theorem put_right {f : Int → Int} {A R : List Int} {x : Int} {u : Nat} (hA : A.Pairwise (bef f)) (hs : ∀ y ∈ A, stb f y x) (hR : SortedOf f (A ++ [x]) R) (h1 : u = 0 ∨ ∃ y, A[u - 1]? = some y ∧ f x ≤ f y) (h2 : u = A.length ∨ ∃ y, A[u]? = some y ∧ f y < f x) : R = A.take u ++ x :: A.drop u := by
  refine put_in hA ⟨hR.1.trans List.perm_append_comm, hR.2⟩ (fun y hy => ?_) (fun y hy => ?_)
  · rcases h1 with rfl | ⟨z, hz, hlt⟩
    · simp at hy
    · have := take_key hA hz hy; exact bef_of (hs y (List.mem_of_mem_take hy)) (by omega)
  · rcases h2 with rfl | ⟨z, hz, hle⟩
    · rw [List.drop_length] at hy; simp at hy
    · have := drop_key hA hz hy; exact .inl (by omega)
/-- Two parts are cut so that the first pieces go ahead of the second ones. -/
theorem cut_ahead {f : Int → Int} {A B : List Int} {q u : Nat} (hA : A.Pairwise (bef f)) (hB : B.Pairwise (bef f)) (hs : ∀ x ∈ A, ∀ y ∈ B, stb f x y) (hlo : q - B.length ≤ u) (hhi : u ≤ min q A.length)
    (h1 : u = q - B.length ∨ ∃ y z, A[u - 1]? = some z ∧ B[q - u]? = some y ∧ f y ≤ f z) (h2 : u = min q A.length ∨ ∃ y z, A[u]? = some z ∧ B[q - u - 1]? = some y ∧ f z < f y) : Ahead f (A.take u ++ B.take (q - u)) (A.drop u ++ B.drop (q - u)) := by
  have hA' : (A.take u ++ A.drop u).Pairwise (bef f) := by rw [List.take_append_drop]; exact hA
  have hB' : (B.take (q - u) ++ B.drop (q - u)).Pairwise (bef f) := by rw [List.take_append_drop]; exact hB
  rw [List.pairwise_append] at hA' hB'
  intro x hx y hy
  rcases List.mem_append.1 hx with hx | hx <;> rcases List.mem_append.1 hy with hy | hy
  · exact hA'.2.2 x hx y hy
  · rcases h1 with h1 | ⟨b, a, ha, hb, hle⟩
    · by_cases hz : u = 0
      · subst hz; simp at hx
      · rw [List.drop_eq_nil_of_le (by clear h2; omega)] at hy; simp at hy
    · have e1 := take_key hA ha hx
      have e2 := drop_key hB hb hy
      exact bef_of (hs x (List.mem_of_mem_take hx) y (List.mem_of_mem_drop hy)) (by omega)
  · rcases h2 with h2 | ⟨b, a, ha, hb, hle⟩
    · by_cases hz : u = q
      · subst hz; simp at hx
      · rw [List.drop_eq_nil_of_le (by clear h1; omega)] at hy; simp at hy
    · have e1 := drop_key hA ha hy
      have e2 := take_key hB hb hx
      exact .inl (by omega)
  · exact hB'.2.2 x hx y hy
end Go.Proofs.Ytepacknnggnifaa
