/- Plain definitions of Upto and Gaps: no program in sight. -/
import Derived.Test.YtfghmpfiemmbgaaMerge
namespace Go.Proofs.Ytfghmpfiemmbgaa

def uptoStep (gate n : Int) (r : Ride) : Int := if r.gate = gate ∧ r.seq = n + 1 then n + 1 else n
def uptoTo (l : List Ride) (gate : Int) (k : Nat) : Int := (l.take k).foldl (uptoStep gate) 0
def upto (l : List Ride) (gate : Int) : Int := l.foldl (uptoStep gate) 0
theorem uptoTo_succ {l : List Ride} {gate : Int} {k : Nat} {x : Ride} (hx : l[k]? = some x) : uptoTo l gate (k + 1) = uptoStep gate (uptoTo l gate k) x := by
  rw [uptoTo, take_snoc _ _ _ hx, List.foldl_append]; rfl
theorem uptoTo_end {l : List Ride} {gate : Int} {k : Nat} (hk : ¬ k < l.length) : uptoTo l gate k = upto l gate := by
  rw [uptoTo, List.take_of_length_le (by omega)]; rfl
theorem uptoTo_bd (l : List Ride) (gate : Int) : ∀ k : Nat, k ≤ l.length → 0 ≤ uptoTo l gate k ∧ uptoTo l gate k ≤ k
  | 0, _ => by simp [uptoTo]
  | k + 1, h => by
    have ih := uptoTo_bd l gate k (by omega)
    rw [uptoTo_succ (List.getElem?_eq_getElem (show k < l.length by omega)), uptoStep]
    split <;> omega

/-- At most m numbers from n on that are less than s. -/
def fill : Nat → Int → Int → List Int
  | 0, _, _ => []
  | m + 1, n, s => if n < s then n :: fill m (n + 1) s else []
def gapsStep (gate : Int) (st : Int × List Int) (r : Ride) : Int × List Int := if r.gate = gate then (r.seq + 1, st.2 ++ fill (100 - st.2.length) st.1 r.seq) else st
def gapsTo (l : List Ride) (gate : Int) (k : Nat) : Int × List Int := (l.take k).foldl (gapsStep gate) (1, [])
def gaps (l : List Ride) (gate : Int) : List Int := (l.foldl (gapsStep gate) (1, [])).2
theorem gapsTo_succ {l : List Ride} {gate : Int} {k : Nat} {x : Ride} (hx : l[k]? = some x) : gapsTo l gate (k + 1) = gapsStep gate (gapsTo l gate k) x := by
  rw [gapsTo, take_snoc _ _ _ hx, List.foldl_append]; rfl
theorem gapsTo_end {l : List Ride} {gate : Int} {k : Nat} (hk : ¬ k < l.length) : (gapsTo l gate k).2 = gaps l gate := by
  rw [gapsTo, List.take_of_length_le (by omega)]; rfl
theorem fill_len : ∀ (m : Nat) (n s : Int), (fill m n s).length ≤ m
  | 0, _, _ => by simp [fill]
  | m + 1, n, s => by
    rw [fill]; split
    · have := fill_len m (n + 1) s; simp; omega
    · simp
def count (n : Int) (j : Nat) : List Int := (List.range j).map fun (i : Nat) => n + (i : Int)
theorem count_succ (n : Int) (j : Nat) : count n (j + 1) = count n j ++ [n + j] := by simp [count, List.range_succ]
theorem count_cons (n : Int) (j : Nat) : count n (j + 1) = n :: count (n + 1) j := by
  simp only [count, List.range_succ_eq_map, List.map_cons, List.map_map]
  congr 1
  · simp
  · apply List.map_congr_left; intro i _; simp only [Function.comp, Nat.succ_eq_add_one]; omega
theorem fill_eq : ∀ (m j : Nat) (n s : Int), j ≤ m → (∀ i : Nat, i < j → n + i < s) → (s ≤ n + j ∨ j = m) → fill m n s = count n j
  | 0, j, n, s, hj, _, _ => by obtain rfl : j = 0 := by omega
                               rfl
  | m + 1, 0, n, s, _, _, h => by rw [fill, if_neg (by rcases h with h | h <;> omega)]; rfl
  | m + 1, j + 1, n, s, hj, h1, h2 => by
    rw [fill, if_pos (by have := h1 0 (by omega); omega), count_cons, fill_eq m j (n + 1) s (by omega) (fun i hi => by have := h1 (i + 1) (by omega); omega) (by rcases h2 with h | h; left; omega; right; omega)]
theorem gapsStep_full {gate : Int} {st : Int × List Int} {r : Ride} (h : st.2.length = 100) : (gapsStep gate st r).2 = st.2 := by
  rw [gapsStep]; split
  · simp [h, fill]
  · rfl
theorem foldl_full (gate : Int) : ∀ (l : List Ride) (st : Int × List Int), st.2.length = 100 → (l.foldl (gapsStep gate) st).2 = st.2
  | [], _, _ => rfl
  | r :: l, st, h => by rw [List.foldl_cons, foldl_full gate l _ (by rw [gapsStep_full h]; exact h), gapsStep_full h]
/-- Where 100 numbers are there before the ride at k is done, the others add nothing. -/
theorem gaps_full {l : List Ride} {gate : Int} {k : Nat} {x : Ride} (hx : l[k]? = some x) (hg : x.gate = gate) {j : Nat} (hl : (gapsTo l gate k).2.length + j = 100) (h1 : ∀ i : Nat, i < j → (gapsTo l gate k).1 + i < x.seq) :
    gaps l gate = (gapsTo l gate k).2 ++ count (gapsTo l gate k).1 j := by
  have h2 : (gapsTo l gate (k + 1)).2 = (gapsTo l gate k).2 ++ count (gapsTo l gate k).1 j := by
    rw [gapsTo_succ hx, gapsStep, if_pos hg]
    show _ ++ fill _ _ _ = _
    rw [fill_eq _ j _ _ (by omega) h1 (.inr (by omega))]
  have h3 : gaps l gate = ((l.drop (k + 1)).foldl (gapsStep gate) (gapsTo l gate (k + 1))).2 := by
    rw [gaps, gapsTo, ← List.foldl_append, List.take_append_drop]
  rw [h3, foldl_full _ _ _ (by rw [h2]; simp [count]; omega), h2]
theorem gapsTo_len (l : List Ride) (gate : Int) : ∀ k : Nat, k ≤ l.length → (gapsTo l gate k).2.length ≤ 100
  | 0, _ => by simp [gapsTo]
  | k + 1, h => by
    have ih := gapsTo_len l gate k (by omega)
    rw [gapsTo_succ (List.getElem?_eq_getElem (show k < l.length by omega)), gapsStep]
    split
    · have := fill_len (100 - (gapsTo l gate k).2.length) (gapsTo l gate k).1 (l[k]'(by omega)).seq
      simp; omega
    · exact ih
theorem gapsTo_bd (l : List Ride) (gate : Int) (hok : ∀ x ∈ l, okR x) : ∀ k : Nat, k ≤ l.length → 1 ≤ (gapsTo l gate k).1 ∧ (gapsTo l gate k).1 ≤ 1000001
  | 0, _ => by simp [gapsTo]
  | k + 1, h => by
    have ih := gapsTo_bd l gate hok k (by omega)
    have hx := hok (l[k]'(by omega)) (List.getElem_mem _)
    rw [gapsTo_succ (List.getElem?_eq_getElem (show k < l.length by omega)), gapsStep]
    split
    · have h1 := hx.2.2.2.2.2.2.2.2.1; have h2 := hx.2.2.2.2.2.2.2.2.2.1
      show 1 ≤ (l[k]'(by omega)).seq + 1 ∧ (l[k]'(by omega)).seq + 1 ≤ 1000001; omega
    · exact ih
end Go.Proofs.Ytfghmpfiemmbgaa
