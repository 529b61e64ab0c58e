/- Rides: facts for the laws. -/
import Derived.Test.YtfghmpfiemmbgaaArg
namespace Go.Proofs.Ytfghmpfiemmbgaa
open Go.RowKit

theorem mergeL_len (a b : List Ride) : (mergeL a b).length ≤ 2000 := by
  unfold mergeL mergeF
  cases mrg (a.length + b.length + 1) a b with
  | none => simp
  | some m =>
    dsimp only
    by_cases h : 2000 < m.length
    · rw [if_pos h]; simp
    · rw [if_neg h]; dsimp only; omega
theorem addL_len (a : List Ride) (r : Ride) : (addL a r).length ≤ 2000 := by
  unfold addL
  split
  · exact mergeL_len a [r]
  · simp
theorem rightB_ok {l : List Ride} (h : rightB l = true) : (l.length ≤ 300 ∧ right l = 0) ∧ (∀ x ∈ l, okR x) ∧ Sorted l := by
  have h' : l.length ≤ 300 ∧ right l = 0 := of_decide_eq_true h
  exact ⟨h', (right_ok h'.2).2.1, (right_ok h'.2).2.2⟩

end Go.Proofs.Ytfghmpfiemmbgaa
