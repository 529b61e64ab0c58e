/- Stable sorting of numbers by a key, the greatest first: plain. No program in sight. -/
import Derived.Test.YtepacknnggnifaaE3
namespace Go.Proofs.Ytepacknnggnifaa
open Go.RowKit

/-- x goes ahead of y: its key is greater, or the same and x is less. -/
def bef (f : Int → Int) (x y : Int) : Prop := f y < f x ∨ (f x = f y ∧ x < y)
instance (f : Int → Int) (x y : Int) : Decidable (bef f x y) := by unfold bef; infer_instance
/-- x may stand ahead of y as far as their numbers tell. -/
def stb (f : Int → Int) (x y : Int) : Prop := f x = f y → x < y
theorem bef_trans {f : Int → Int} {x y z : Int} (h : bef f x y) (k : bef f y z) : bef f x z := by unfold bef at *; omega
theorem bef_asymm {f : Int → Int} {x y : Int} (h : bef f x y) (k : bef f y x) : x = y := by unfold bef at *; omega
theorem bef_total {f : Int → Int} {x y : Int} (h : x ≠ y) : bef f x y ∨ bef f y x := by unfold bef; omega
theorem bef_stb {f : Int → Int} {x y : Int} (h : bef f x y) : stb f x y := by unfold bef at h; unfold stb; omega
theorem bef_of {f : Int → Int} {x y : Int} (h : stb f x y) (k : f y ≤ f x) : bef f x y := by
  unfold stb at h; unfold bef
  by_cases e : f x = f y
  · exact .inr ⟨e, h e⟩
  · exact .inl (by omega)
/-- R holds what A holds, in order. -/
def SortedOf (f : Int → Int) (A R : List Int) : Prop := R.Perm A ∧ R.Pairwise (bef f)
theorem sorted_uniq {f : Int → Int} {A R T : List Int} (h : SortedOf f A R) (k : SortedOf f A T) : R = T :=
  List.Perm.eq_of_pairwise (fun _ _ _ _ => bef_asymm) h.2 k.2 (h.1.trans k.1.symm)
theorem ins_ex {f : Int → Int} (x : Int) : ∀ (R : List Int), R.Pairwise (bef f) → x ∉ R → ∃ T : List Int, T.Perm (x :: R) ∧ T.Pairwise (bef f)
  | [], _, _ => ⟨[x], .refl _, List.pairwise_singleton _ _⟩
  | y :: r, h, hx => by
    obtain ⟨h1, h2⟩ := List.pairwise_cons.1 h
    have hne : x ≠ y := fun e => hx (by simp [e])
    rcases bef_total (f := f) hne with hb | hb
    · refine ⟨x :: y :: r, .refl _, List.pairwise_cons.2 ⟨fun z hz => ?_, h⟩⟩
      rcases List.mem_cons.1 hz with rfl | hz
      · exact hb
      · exact bef_trans hb (h1 z hz)
    · obtain ⟨T, hT, hp⟩ := ins_ex x r h2 (fun e => hx (by simp [e]))
      refine ⟨y :: T, (hT.cons y).trans (.swap _ _ _), List.pairwise_cons.2 ⟨fun z hz => ?_, hp⟩⟩
      rcases List.mem_cons.1 (hT.mem_iff.1 hz) with rfl | hz
      · exact hb
      · exact h1 z hz
theorem sorted_ex {f : Int → Int} : ∀ (A : List Int), A.Nodup → ∃ R, SortedOf f A R
  | [], _ => ⟨[], .refl _, .nil⟩
  | x :: r, h => by
    obtain ⟨h1, h2⟩ := List.nodup_cons.1 h
    obtain ⟨R, hR, hp⟩ := sorted_ex (f := f) r h2
    obtain ⟨T, hT, hq⟩ := ins_ex (f := f) x R hp (fun e => h1 (hR.mem_iff.1 e))
    exact ⟨T, hT.trans (hR.cons x), hq⟩
theorem stb_nodup {f : Int → Int} {A : List Int} (h : A.Pairwise (stb f)) : A.Nodup := h.imp fun {a b} k e => by
  subst e
  have : a < a := k rfl
  omega
theorem stb_ex {f : Int → Int} {A : List Int} (h : A.Pairwise (stb f)) : ∃ R, SortedOf f A R := sorted_ex A (stb_nodup h)

/-- A part of a list that is stable is put in order: it stays stable. -/
theorem stb_part {f : Int → Int} {P A R S : List Int} (h : (P ++ (A ++ S)).Pairwise (stb f)) (k : SortedOf f A R) : (P ++ (R ++ S)).Pairwise (stb f) := by
  rw [List.pairwise_append, List.pairwise_append] at h ⊢
  obtain ⟨h1, ⟨h2, h3, h4⟩, h5⟩ := h
  refine ⟨h1, ⟨k.2.imp bef_stb, h3, fun a ha b hb => h4 a (k.1.mem_iff.1 ha) b hb⟩, fun a ha b hb => ?_⟩
  refine h5 a ha b ?_
  rcases List.mem_append.1 hb with hb | hb
  · exact List.mem_append.2 (.inl (k.1.mem_iff.1 hb))
  · exact List.mem_append.2 (.inr hb)

/-! ### blocks -/
/-- Each block of k is in order. -/
def Blk (f : Int → Int) (k : Nat) (l : List Int) : Prop := ∀ p q x y, p < q → p / k = q / k → l[p]? = some x → l[q]? = some y → bef f x y
theorem blk_one {f : Int → Int} {k : Nat} {l : List Int} (h : Blk f k l) (hl : l.length ≤ k) : l.Pairwise (bef f) := by
  rw [List.pairwise_iff_getElem]
  intro i j hi hj hij
  refine h i j _ _ hij ?_ (List.getElem?_eq_getElem hi) (List.getElem?_eq_getElem hj)
  rw [Nat.div_eq_of_lt (by omega), Nat.div_eq_of_lt (by omega)]
theorem blk_of {f : Int → Int} {k : Nat} {l : List Int} (h : l.Pairwise (bef f)) : Blk f k l := by
  intro p q x y hpq _ hx hy
  obtain ⟨h1, rfl⟩ := List.getElem?_eq_some_iff.1 hx
  obtain ⟨h2, rfl⟩ := List.getElem?_eq_some_iff.1 hy
  exact List.pairwise_iff_getElem.1 h p q h1 h2 hpq
theorem blk_app {f : Int → Int} {k t : Nat} {D R : List Int} (hk : 0 < k) (hd : D.length = t * k) : Blk f k (D ++ R) ↔ Blk f k D ∧ Blk f k R := by
  constructor
  · intro h
    refine ⟨fun p q x y hpq he hx hy => ?_, fun p q x y hpq he hx hy => ?_⟩
    · have h1 := (List.getElem?_eq_some_iff.1 hx).1
      have h2 := (List.getElem?_eq_some_iff.1 hy).1
      exact h p q x y hpq he (by rw [List.getElem?_append_left h1]; exact hx) (by rw [List.getElem?_append_left h2]; exact hy)
    · refine h (D.length + p) (D.length + q) x y (by omega) ?_ (by rw [List.getElem?_append_right (by omega)]; rw [Nat.add_sub_cancel_left]; exact hx) (by rw [List.getElem?_append_right (by omega)]; rw [Nat.add_sub_cancel_left]; exact hy)
      rw [hd, Nat.add_comm _ p, Nat.add_comm _ q, Nat.add_mul_div_right _ _ hk, Nat.add_mul_div_right _ _ hk, he]
  · rintro ⟨h1, h2⟩ p q x y hpq he hx hy
    by_cases hp : p < D.length
    · by_cases hq : q < D.length
      · rw [List.getElem?_append_left hp] at hx
        rw [List.getElem?_append_left hq] at hy
        exact h1 p q x y hpq he hx hy
      · exfalso
        have e1 : p / k < t := (Nat.div_lt_iff_lt_mul hk).2 (by omega)
        have e2 : t ≤ q / k := (Nat.le_div_iff_mul_le hk).2 (by omega)
        omega
    · rw [List.getElem?_append_right (by omega)] at hx
      rw [List.getElem?_append_right (by omega)] at hy
      refine h2 (p - D.length) (q - D.length) x y (by omega) ?_ hx hy
      rw [show p = (p - D.length) + t * k by omega, show q = (q - D.length) + t * k by omega, Nat.add_mul_div_right _ _ hk, Nat.add_mul_div_right _ _ hk] at he
      omega
theorem blk_take {f : Int → Int} {k : Nat} {R : List Int} (h : Blk f k R) : (R.take k).Pairwise (bef f) := by
  refine blk_one (k := k) ?_ (by rw [List.length_take]; omega)
  intro p q x y hpq he hx hy
  rw [List.getElem?_take] at hx hy
  split at hx
  · split at hy
    · exact h p q x y hpq he hx hy
    · cases hy
  · cases hx
theorem blk_drop {f : Int → Int} {k : Nat} {R : List Int} (hk : 0 < k) (h : Blk f k R) : Blk f k (R.drop k) := by
  by_cases hl : k ≤ R.length
  · have := (blk_app (f := f) (t := 1) (D := R.take k) (R := R.drop k) hk (by rw [List.length_take]; omega)).1 (by rw [List.take_append_drop]; exact h)
    exact this.2
  · rw [List.drop_eq_nil_of_le (by omega)]
    intro p q x y _ _ hx; simp at hx

/-! ### joining -/
/-- All that is in A goes ahead of all that is in B. -/
def Ahead (f : Int → Int) (A B : List Int) : Prop := ∀ x ∈ A, ∀ y ∈ B, bef f x y
theorem sorted_join {f : Int → Int} {A B A' B' R : List Int} (h : SortedOf f (A ++ B) R) (hA : SortedOf f A A') (hB : SortedOf f B B') (hab : Ahead f A B) : A' ++ B' = R := by
  refine sorted_uniq ⟨hA.1.append hB.1, ?_⟩ h
  rw [List.pairwise_append]
  exact ⟨hA.2, hB.2, fun x hx y hy => hab x (hA.1.mem_iff.1 hx) y (hB.1.mem_iff.1 hy)⟩
theorem sorted_self {f : Int → Int} {A R : List Int} (h : A.Pairwise (bef f)) (k : SortedOf f A R) : A = R := sorted_uniq ⟨.refl _, h⟩ k

/-! ### places in lists that are joined -/
theorem get_mid (U V : List Int) (x : Int) : (U ++ x :: V)[U.length]? = some x := by simp
theorem get_mid2 (U V : List Int) (x y : Int) : (U ++ x :: y :: V)[U.length + 1]? = some y := by simp
theorem swap_mid (U V : List Int) (x y : Int) : ((U ++ x :: y :: V).set (U.length + 1) x).set U.length y = U ++ y :: x :: V := by simp
theorem swap_mid' (U V : List Int) (x y : Int) : ((U ++ x :: y :: V).set U.length y).set (U.length + 1) x = U ++ y :: x :: V := by simp
theorem swap_far (U M V : List Int) (x y : Int) : ((U ++ x :: (M ++ y :: V)).set U.length y).set (U.length + 1 + M.length) x = U ++ y :: (M ++ x :: V) := by
  rw [List.set_append_right (s := U) _ _ (Nat.le_refl _), Nat.sub_self, List.set_cons_zero, List.set_append_right (s := U) _ _ (by omega)]
  rw [show U.length + 1 + M.length - U.length = M.length + 1 by omega, List.set_cons_succ, List.set_append_right (s := M) _ _ (Nat.le_refl _), Nat.sub_self, List.set_cons_zero]
theorem get_far (U M V : List Int) (x y : Int) : (U ++ x :: (M ++ y :: V))[U.length + 1 + M.length]? = some y := by
  rw [List.getElem?_append_right (by omega), show U.length + 1 + M.length - U.length = M.length + 1 by omega, List.getElem?_cons_succ, List.getElem?_append_right (Nat.le_refl _), Nat.sub_self, List.getElem?_cons_zero]
theorem last_of {l : List Int} (h : 0 < l.length) : ∃ r x, l = r ++ [x] := by
  refine ⟨l.dropLast, l.getLast (by intro e; subst e; simp at h), ?_⟩
  exact (List.dropLast_concat_getLast _).symm
theorem first_of {l : List Int} (h : 0 < l.length) : ∃ x r, l = x :: r := by
  cases l with
  | nil => simp at h
  | cons x r => exact ⟨x, r, rfl⟩
end Go.Proofs.Ytepacknnggnifaa
