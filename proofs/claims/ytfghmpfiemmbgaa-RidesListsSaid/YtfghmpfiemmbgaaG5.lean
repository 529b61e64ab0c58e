/- Rides: a full store of one gate with a gap. -/
import Derived.Test.YtfghmpfiemmbgaaG4
namespace Go.Proofs.Ytfghmpfiemmbgaa
open Go.RowKit Go.Deep

def fullL (skip : Int) : Nat → List Ride
  | 0 => []
  | k + 1 => if ((k + 1 : Nat) : Int) = skip then fullL skip k else fullL skip k ++ [rideOf ((k + 1 : Nat) : Int) ((k + 1 : Nat) : Int)]
theorem fullL_bd (skip : Int) : ∀ (k : Nat) (x : Ride), x ∈ fullL skip k → x.gate = 2 ∧ x.seq ≤ k
  | 0, x, h => by simp [fullL] at h
  | k + 1, x, h => by
    rw [fullL] at h
    split at h
    · have := fullL_bd skip k x h; omega
    · rcases List.mem_append.1 h with h | h
      · have := fullL_bd skip k x h; omega
      · simp at h; subst h; exact ⟨rfl, Int.le_refl _⟩
theorem fullL_sorted (skip : Int) : ∀ k : Nat, Sorted (fullL skip k)
  | 0 => .nil
  | k + 1 => by
    rw [fullL]
    split
    · exact fullL_sorted skip k
    · refine snoc_sorted (fullL_sorted skip k) fun z hz => ?_
      have := fullL_bd skip k z hz
      right
      exact ⟨this.1, by show z.seq < ((k + 1 : Nat) : Int); omega⟩
theorem fullL_len (skip : Int) (h0 : 1 ≤ skip) : ∀ k : Nat, ((fullL skip k).length : Int) = if skip ≤ k then (k : Int) - 1 else k
  | 0 => by rw [if_neg (by omega)]; rfl
  | k + 1 => by
    have ih := fullL_len skip h0 k
    rw [fullL]
    split
    · rw [ih, if_neg (by omega), if_pos (by omega)]; omega
    · rw [List.length_append]
      by_cases h : skip ≤ k
      · rw [if_pos h] at ih; rw [if_pos (by omega)]; simp; omega
      · rw [if_neg h] at ih; rw [if_neg (by omega)]; simp; omega
end Go.Proofs.Ytfghmpfiemmbgaa
