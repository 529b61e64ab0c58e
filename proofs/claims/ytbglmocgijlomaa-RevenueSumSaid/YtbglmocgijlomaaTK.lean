/- The shares of all sales together: plain. No program in sight. -/
import Derived.Test.YtbglmocgijlomaaTJ
namespace Go.Proofs.Ytbglmocgijlomaa
open Go.RowKit

theorem amt_app (a b : List Share) (o : Int) : amt (a ++ b) o = amt a o + amt b o := by
  simp only [amt, List.map_append, List.sum_append]
theorem few_keys (p : List Share) : fewL p = ((keysL p).filter fun o => decide (amt p o ≠ 0)).map fun o => ⟨o, amt p o⟩ := by
  rw [fewL, tabL, List.filter_map]; rfl
theorem few_keysL (p : List Share) : ((keysL p).filter fun o => decide (amt p o ≠ 0)).Pairwise (· < ·) ∧ ∀ o, o ∈ (keysL p).filter (fun o => decide (amt p o ≠ 0)) ↔ amt p o ≠ 0 := by
  refine ⟨(keysL_spec p).1.sublist List.filter_sublist, fun o => ?_⟩
  rw [List.mem_filter, (keysL_spec p).2, decide_eq_true_eq]
  refine ⟨fun h => h.2, fun h => ⟨?_, h⟩⟩
  by_cases e : o ∈ p.map (·.o)
  · exact e
  · exact absurd (amt_out e) h
/-- What is left says only what each operator has. -/
theorem few_ext {p q : List Share} (h : ∀ o, amt p o = amt q o) : fewL p = fewL q := by
  have hk : (keysL p).filter (fun o => decide (amt p o ≠ 0)) = (keysL q).filter fun o => decide (amt q o ≠ 0) :=
    lt_uniq (few_keysL p).1 (few_keysL q).1 fun z => by rw [(few_keysL p).2, (few_keysL q).2, h]
  rw [few_keys, few_keys, hk]
  exact List.map_congr_left fun o _ => by rw [h]
theorem amt_nz (o : Int) : ∀ l : List Share, amt (l.filter fun x => decide (x.a ≠ 0)) o = amt l o
  | [] => rfl
  | x :: r => by
    have ih := amt_nz o r
    rw [List.filter_cons]
    have e : ∀ t : List Share, amt (x :: t) o = (if x.o = o then x.a else 0) + amt t o := fun t => by simp only [amt, List.map_cons, List.sum_cons]
    split
    · rw [e, e, ih]
    · rename_i h
      simp at h
      rw [ih, e, h]; split <;> omega
theorem amt_keys {f : Int → Int} {o : Int} : ∀ {ks : List Int}, ks.Nodup → amt (ks.map fun k => ⟨k, f k⟩) o = if o ∈ ks then f o else 0
  | [], _ => rfl
  | y :: r, hn => by
    obtain ⟨h1, h2⟩ := List.nodup_cons.1 hn
    have e : amt ((y :: r).map fun k => (⟨k, f k⟩ : Share)) o = (if y = o then f y else 0) + amt (r.map fun k => (⟨k, f k⟩ : Share)) o := by simp only [amt, List.map_cons, List.sum_cons]
    rw [e, amt_keys h2]
    by_cases e : y = o
    · subst e; rw [if_pos rfl, if_neg h1, if_pos (by simp)]; omega
    · rw [if_neg e]
      by_cases h : o ∈ r
      · rw [if_pos h, if_pos (by simp [h])]; omega
      · rw [if_neg h, if_neg (by simp [h, Ne.symm e])]; omega
theorem amt_few (p : List Share) (o : Int) : amt (fewL p) o = amt p o := by
  rw [fewL, amt_nz, tabL, amt_keys ((keysL_spec p).1.imp fun h => by omega)]
  by_cases h : o ∈ keysL p
  · rw [if_pos h]
  · rw [if_neg h, amt_out fun e => h (((keysL_spec p).2 o).2 e)]
theorem few_app (a b : List Share) : fewL (fewL a ++ b) = fewL (a ++ b) := few_ext fun o => by rw [amt_app, amt_app, amt_few]
theorem few_app2 (a b : List Share) : fewL (a ++ fewL b) = fewL (a ++ b) := few_ext fun o => by rw [amt_app, amt_app, amt_few]

/-! ### no amount below zero -/
def sumA (p : List Share) : Int := (p.map fun x : Share => x.a).sum
theorem sumA_app (a b : List Share) : sumA (a ++ b) = sumA a + sumA b := by simp only [sumA, List.map_append, List.sum_append]
def Pos (p : List Share) : Prop := ∀ x ∈ p, 0 ≤ x.a
theorem Pos.app {a b : List Share} (h : Pos a) (k : Pos b) : Pos (a ++ b) := fun x hx => (List.mem_append.1 hx).elim (h x) (k x)
theorem Pos.left {a b : List Share} (h : Pos (a ++ b)) : Pos a := fun x hx => h x (List.mem_append.2 (.inl hx))
theorem Pos.right {a b : List Share} (h : Pos (a ++ b)) : Pos b := fun x hx => h x (List.mem_append.2 (.inr hx))
theorem Pos.amt : ∀ {p : List Share}, Pos p → ∀ o, 0 ≤ amt p o ∧ amt p o ≤ sumA p
  | [], _, o => ⟨Int.le_refl 0, Int.le_refl 0⟩
  | x :: r, h, o => by
    have h1 := Pos.amt (p := r) (fun y hy => h y (by simp [hy])) o
    have h2 := h x (by simp)
    simp only [sumA, Go.Proofs.Ytbglmocgijlomaa.amt, List.map_cons, List.sum_cons] at h1 ⊢
    split <;> omega
theorem Pos.sum {p : List Share} (h : Pos p) : 0 ≤ sumA p := by have := h.amt 0; omega
theorem addO_pos : ∀ (r p : List Share), Pos p → Pos r → sumA p + sumA r ≤ 1099511627776 → addO p r = true
  | [], _, _, _, _ => rfl
  | x :: r, p, hp, hr, hs => by
    have h2 := hr x (by simp)
    have hr' : Pos r := fun y hy => hr y (by simp [hy])
    have hrs := hr'.sum
    have hpa := hp.amt x.o
    have hsx : sumA (x :: r) = x.a + sumA r := by simp only [sumA, List.map_cons, List.sum_cons]
    rw [addO, plusF, if_neg (by omega)]
    refine addO_pos r (p ++ [x]) (hp.app fun y hy => by simp at hy; subst hy; exact h2) hr' ?_
    have : sumA (p ++ [x]) = sumA p + x.a := by rw [sumA_app]; simp [sumA]
    omega
theorem Pos.few {p : List Share} (h : Pos p) : Pos (fewL p) := fun x hx => by
  rw [fewL] at hx
  have := tab_amt (List.mem_filter.1 hx).1
  rw [this]; exact (h.amt _).1
theorem sumA_few (p : List Share) : sumA (fewL p) = sumA p := few_sum p
theorem few_pos {p : List Share} (h : Pos p) {x : Share} (hx : x ∈ fewL p) : 1 ≤ x.a := by
  have h1 := h.few x hx
  have h2 := fewL_nz hx
  omega
theorem few_op {p : List Share} {x : Share} (hx : x ∈ fewL p) : x.o ∈ p.map (·.o) := by
  obtain ⟨o, ho, rfl⟩ := List.mem_map.1 (List.mem_filter.1 hx).1
  exact ((keysL_spec p).2 o).1 ho
theorem few_len (p : List Share) : (fewL p).length ≤ p.length := Nat.le_trans (List.length_filter_le ..) (tab_len p)
end Go.Proofs.Ytbglmocgijlomaa
