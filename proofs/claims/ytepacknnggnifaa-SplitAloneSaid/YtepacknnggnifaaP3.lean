/- The stages of a stable sort: plain. No program in sight. -/
import Derived.Test.YtepacknnggnifaaP2
namespace Go.Proofs.Ytepacknnggnifaa

/-- What stands in the row on the way. -/
structure Mid (f : Int → Int) (l cur : List Int) : Prop where
  perm : cur.Perm l
  st : cur.Pairwise (stb f)
theorem Mid.part {f : Int → Int} {l P A R S : List Int} (h : Mid f l (P ++ (A ++ S))) (k : SortedOf f A R) : Mid f l (P ++ (R ++ S)) :=
  ⟨(List.Perm.append_left P (List.Perm.append_right S k.1)).trans h.perm, stb_part h.st k⟩
theorem Mid.stA {f : Int → Int} {l P A S : List Int} (h : Mid f l (P ++ (A ++ S))) : A.Pairwise (stb f) := by
  have := h.st
  rw [List.pairwise_append, List.pairwise_append] at this
  exact this.2.1.1
theorem Mid.cross {f : Int → Int} {l P A B S : List Int} (h : Mid f l (P ++ ((A ++ B) ++ S))) : ∀ y ∈ A, ∀ z ∈ B, stb f y z := by
  have := h.stA
  rw [List.pairwise_append] at this
  exact this.2.2
theorem Mid.mem {f : Int → Int} {l P A S : List Int} (h : Mid f l (P ++ (A ++ S))) {y : Int} (hy : y ∈ A) : y ∈ l := h.perm.mem_iff.1 (by simp [hy])
theorem Mid.len {f : Int → Int} {l cur : List Int} (h : Mid f l cur) : cur.length = l.length := h.perm.length_eq
theorem blk_snoc {f : Int → Int} {k t : Nat} {D R : List Int} (hk : 0 < k) (hd : D.length = t * k) (h : Blk f k D) (hR : R.Pairwise (bef f)) : Blk f k (D ++ R) := (blk_app hk hd).2 ⟨h, blk_of hR⟩
theorem blk_nil {f : Int → Int} {k : Nat} : Blk f k [] := fun p q x y _ _ hx => by simp at hx
theorem blk_len {k t : Nat} {D R : List Int} (hd : D.length = t * k) (hR : R.length = k) : (D ++ R).length = (t + 1) * k := by rw [List.length_append, hd, hR, Nat.succ_mul]
theorem cut_at {E : List Int} {k : Nat} (h : k ≤ E.length) : ∃ A S, E = A ++ S ∧ A.length = k ∧ E.take k = A ∧ E.drop k = S := ⟨E.take k, E.drop k, (List.take_append_drop ..).symm, by rw [List.length_take]; omega, rfl, rfl⟩
end Go.Proofs.Ytepacknnggnifaa
