/- Periods: the rides of a period: plain. -/
import Derived.Test.YtpkhannkbafimaaGreatR8
namespace Go.Proofs.YtpkhannkbafimaaGreat
open Go.RowKit
def filtR (l : List Cnt) (n : Int) : List Ride := (l.filter fun c => decide (c.per = n)).map (·.r)
theorem filtR_yes {l : List Cnt} {n : Int} {k : Nat} {c : Cnt} (hc : l[k]? = some c) (h : c.per = n) : filtR (l.take (k + 1)) n = filtR (l.take k) n ++ [c.r] := by
  unfold filtR; rw [take_snoc _ _ _ hc, List.filter_append, List.map_append]; simp [h]
theorem filtR_no {l : List Cnt} {n : Int} {k : Nat} {c : Cnt} (hc : l[k]? = some c) (h : c.per ≠ n) : filtR (l.take (k + 1)) n = filtR (l.take k) n := by
  unfold filtR; rw [take_snoc _ _ _ hc, List.filter_append, List.map_append]; simp [h]
theorem filtR_len (l : List Cnt) (n : Int) (k : Nat) : (filtR (l.take k) n).length ≤ l.length := by
  unfold filtR
  rw [List.length_map]
  exact Nat.le_trans (List.length_filter_le _ _) (by rw [List.length_take]; omega)
abbrev sameKey (a b : Ride) : Prop := a.gate = b.gate ∧ a.seq = b.seq
theorem filtR_inj {l : List Cnt} (h : (l.map keyC).Nodup) {n : Int} {a b : Ride} (ha : a ∈ filtR l n) (hb : b ∈ filtR l n) (e : sameKey a b) : a = b := by
  obtain ⟨c, hc, rfl⟩ := List.mem_map.1 ha
  obtain ⟨d, hd, rfl⟩ := List.mem_map.1 hb
  obtain ⟨i, hi⟩ := List.mem_iff_getElem?.1 ((List.mem_filter.1 hc).1)
  obtain ⟨j, hj⟩ := List.mem_iff_getElem?.1 ((List.mem_filter.1 hd).1)
  have kk : keyC c = keyC d := by show [_, _] = [_, _]; rw [e.1, e.2]
  rcases Nat.lt_trichotomy i j with hij | hij | hij
  · exact absurd kk.symm (key_apart h hj c (List.mem_of_getElem? (i := i) (by rw [List.getElem?_take_of_lt hij]; exact hi)))
  · subst hij; rw [hi] at hj; cases hj; rfl
  · exact absurd kk (key_apart h hi d (List.mem_of_getElem? (i := j) (by rw [List.getElem?_take_of_lt hij]; exact hj)))
theorem befD_key {a b : Ride} (h1 : ¬ befD a b) (h2 : ¬ befD b a) : sameKey a b := by unfold befD sameKey at *; omega
def ridesOf (b : Bk) (n : Int) : List Ride := (filtR b.rs n).mergeSort fun x y => !decide (befD y x)
theorem ridesOf_perm (b : Bk) (n : Int) : (ridesOf b n).Perm (filtR b.rs n) := List.mergeSort_perm _ _
theorem rides_uniq {b : Bk} (hK : (b.rs.map keyC).Nodup) {n : Int} {ys : List Ride} (hp : ys.Perm (filtR b.rs n)) (hw : ys.Pairwise fun x y => ¬ befD y x) : ys = ridesOf b n := by
  have h0 : (ridesOf b n).Pairwise fun x y => ¬ befD y x := (List.pairwise_mergeSort (le := fun x y : Ride => !decide (befD y x)) (fun a b c h1 h2 => by simp at *; unfold befD at *; omega) (fun a b => by simp; unfold befD; omega) (filtR b.rs n)).imp fun h => by simpa using h
  refine List.Perm.eq_of_pairwise (le := fun x y => ¬ befD y x) (fun x y hx hy h1 h2 => ?_) hw h0 (hp.trans (ridesOf_perm b n).symm)
  exact filtR_inj hK (hp.mem_iff.1 hx) ((ridesOf_perm b n).mem_iff.1 hy) (befD_key h2 h1)
def cmpR (a b : Ride) : Int := orI [cmpI a.gate b.gate, cmpI a.seq b.seq]
theorem cmpR_lt (a b : Ride) : cmpR a b < 0 ↔ befD a b := by
  have h1 := cmpI_lt a.gate b.gate
  have h2 := cmpI_eq a.gate b.gate
  have h3 := cmpI_lt a.seq b.seq
  have h4 := cmpI_eq a.seq b.seq
  unfold befD
  have h : cmpR a b = if cmpI a.gate b.gate = 0 then (if cmpI a.seq b.seq = 0 then 0 else cmpI a.seq b.seq) else cmpI a.gate b.gate := rfl
  rw [h]
  split
  · split <;> omega
  · omega
end Go.Proofs.YtpkhannkbafimaaGreat
