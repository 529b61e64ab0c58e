/- Even parts: plain. No program in sight. -/
import Derived.Test.YtepacknnggnifaaP7
namespace Go.Proofs.Ytepacknnggnifaa
open Go.RowKit

def evI (a n i : Int) : Int := a / n + if i < a % n then 1 else 0
def evenL (a n : Int) (k : Nat) : List Int := (List.range k).map fun i : Nat => evI a n i
def evErr (a n : Int) : Int := if a < 0 ∨ 1099511627776 < a then 2 else if n < 1 ∨ 64 < n then 1 else 0
theorem evenL_len (a n : Int) (k : Nat) : (evenL a n k).length = k := by simp [evenL]
theorem evenL_snoc (a n : Int) (k : Nat) : evenL a n (k + 1) = evenL a n k ++ [evI a n k] := by simp [evenL, List.range_succ]
/-- A row of k that is filled up to j. -/
def fillE (a n : Int) (k j : Nat) : List Int := evenL a n j ++ List.replicate (k - j) 0
theorem fillE_len {a n : Int} {k j : Nat} (h : j ≤ k) : (fillE a n k j).length = k := by rw [fillE, List.length_append, evenL_len, List.length_replicate]; omega
theorem fillE_set {a n : Int} {k j : Nat} (h : j < k) (x : Int) (hx : x = evI a n j) : (fillE a n k j).set j x = fillE a n k (j + 1) := by
  subst hx
  obtain ⟨m, hm⟩ : ∃ m, k - j = m + 1 := ⟨k - j - 1, by omega⟩
  rw [fillE, fillE, evenL_snoc, hm, show k - (j + 1) = m by omega, List.replicate_succ, List.set_append_right _ _ (by rw [evenL_len]; omega), evenL_len, Nat.sub_self, List.set_cons_zero, List.append_assoc]
  rfl
theorem fillE_end (a n : Int) (k : Nat) : fillE a n k k = evenL a n k := by simp [fillE]
theorem fillE_start (a n : Int) (k : Nat) : fillE a n k 0 = List.replicate k 0 := by simp [fillE, evenL]
end Go.Proofs.Ytepacknnggnifaa
