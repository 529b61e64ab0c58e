/- The clock: lengths. Plain. -/
import Derived.Test.YtmehmnlhnbeeeaaP3
namespace Go.Proofs.Ytmehmnlhnbeeeaa

def sumL : List Ivl → Int
  | [] => 0
  | v :: r => (v.to - v.frm) + sumL r
theorem sumL_append : ∀ l m : List Ivl, sumL (l ++ m) = sumL l + sumL m
  | [], m => by simp [sumL]
  | v :: r, m => by rw [List.cons_append, sumL, sumL, sumL_append r m]; omega
theorem sumL_step {m : List Ivl} {k : Nat} {x : Ivl} (hx : m[k]? = some x) : sumL (m.take (k + 1)) = sumL (m.take k) + (x.to - x.frm) := by
  rw [take_snoc _ _ _ hx, sumL_append]; simp [sumL]
theorem sumL_bd : ∀ (m : List Ivl) (c : Int), Plain m → (∀ v ∈ m, c ≤ v.frm) → c ≤ 20000000 → (m.length : Int) ≤ sumL m ∧ sumL m ≤ 20000000 - c
  | [], c, _, _, _ => by simp [sumL]; omega
  | v :: r, c, hp, hc, h0 => by
    have fv := hp.head
    obtain ⟨h1, h2⟩ := sumL_bd r v.to hp.tail (fun w hw => by have := hp.lt w hw; omega) fv.2.2
    have := hc v (by simp)
    have := fv.2.1
    rw [sumL, List.length_cons]
    omega
theorem Plain.sum {m : List Ivl} (hp : Plain m) : (m.length : Int) ≤ sumL m ∧ sumL m ≤ 20000000 := by
  have := sumL_bd m 0 hp (fun v hv => (hp.2 v hv).1) (by decide)
  omega
theorem Plain.take {m : List Ivl} (hp : Plain m) (k : Nat) : Plain (m.take k) := hp.sub (List.take_sublist _ _)
def lenF (l : List Ivl) : Int := sumL (mergeF l)
theorem minusTo_succ {A B : List Ivl} {k : Nat} {v : Ivl} (hv : A[k]? = some v) : minusTo A B (k + 1) = minusStep (minusTo A B k) v := by
  unfold minusTo
  rw [take_snoc _ _ _ hv, List.foldl_append]; rfl
theorem minusTo_plain {A B : List Ivl} (ha : Plain A) (hb : Plain B) (k : Nat) : Plain (minusTo A B k).1 :=
  (minus_fold (A.take k) B [] (ha.take k) hb Plain.nil (by simp)).1
theorem fold_sub : ∀ (A : List Ivl) (s : List Ivl × List Ivl), (A.foldl minusStep s).2.Sublist s.2
  | [], s => List.Sublist.refl _
  | v :: A, s => by
    rw [List.foldl_cons]
    exact (fold_sub A _).trans (List.dropWhile_sublist _)
theorem minusTo_sub (A B : List Ivl) (k : Nat) : (minusTo A B k).2.length ≤ B.length := (fold_sub (A.take k) ([], B)).length_le
theorem past_cons {f : Int} {h : Ivl} {r : List Ivl} (hc : h.to ≤ f) : (h :: r).dropWhile (past f) = r.dropWhile (past f) := by
  rw [List.dropWhile_cons, if_pos (by simpa [past] using hc)]
theorem past_stay {f : Int} {h : Ivl} {r : List Ivl} (hc : ¬ h.to ≤ f) : (h :: r).dropWhile (past f) = h :: r := by
  rw [List.dropWhile_cons, if_neg (by simpa [past] using hc)]
theorem cut_break {f : Int} {v h : Ivl} {H : List Ivl} {j : Nat} (hj : H[j]? = some h) (hc : v.to ≤ h.frm) : cutI f v (H.drop j) = tl f v := by
  rw [drop_of hj, cutI, if_pos hc]
theorem cut_piece {f : Int} {v h : Ivl} {H : List Ivl} {j : Nat} (hj : H[j]? = some h) (hc : ¬ v.to ≤ h.frm) (hf : f < h.frm) : cutI f v (H.drop j) = ⟨f, h.frm⟩ :: cutI h.to v (H.drop (j + 1)) := by
  rw [drop_of hj, cutI, if_neg hc, if_pos hf]; rfl
theorem cut_none {f : Int} {v h : Ivl} {H : List Ivl} {j : Nat} (hj : H[j]? = some h) (hc : ¬ v.to ≤ h.frm) (hf : ¬ f < h.frm) : cutI f v (H.drop j) = cutI h.to v (H.drop (j + 1)) := by
  rw [drop_of hj, cutI, if_neg hc, if_neg hf]; rfl
theorem cut_end {f : Int} {v : Ivl} {H : List Ivl} {j : Nat} (hj : ¬ j < H.length) : cutI f v (H.drop j) = tl f v := by rw [drop_end hj, cutI]
theorem tl_yes {f : Int} {v : Ivl} (h : f < v.to) : tl f v = [⟨f, v.to⟩] := if_pos h
theorem tl_no {f : Int} {v : Ivl} (h : ¬ f < v.to) : tl f v = [] := if_neg h
end Go.Proofs.Ytmehmnlhnbeeeaa
