/- Rides: counting and adding again. -/
import Derived.Test.YtfghmpfiemmbgaaG3
namespace Go.Proofs.Ytfghmpfiemmbgaa
open Go.RowKit

theorem right_one_bad {r : Ride} (h : ¬ okR r) : right [r] = 2 := by
  rw [right, if_neg (by simp), rightFrom, if_neg h]
theorem count_step {m : List Ride} {k : Nat} {x r : Ride} (hx : m[k]? = some x) : (m.take (k + 1)).count r = (m.take k).count r + (if x = r then 1 else 0) := by
  rw [take_snoc _ _ _ hx, List.count_append, List.count_singleton]
  simp
theorem count_one {m : List Ride} {r : Ride} (hs : Sorted m) (hr : r ∈ m) : m.count r = 1 := by
  have h1 := List.nodup_iff_count.1 (sorted_nodup hs) r
  have h2 := List.count_pos_iff.2 hr
  omega
theorem isMerge_again {a m : List Ride} {r : Ride} (h : IsMerge a [r] m) : IsMerge m [r] m := ⟨h.1, fun x => by rw [h.2]; simp⟩
theorem isMerge_mem {a m : List Ride} {r : Ride} (h : IsMerge a [r] m) : r ∈ m := (h.2 r).2 (.inr (by simp))
end Go.Proofs.Ytfghmpfiemmbgaa
