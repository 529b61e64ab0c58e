/- Elements found and struck. No program in sight. -/
import Derived.Test.YtpkhannkbafimaaGreatP7
namespace Go.Proofs.YtpkhannkbafimaaGreat

def idxI (p : Share → Bool) (l : List Share) : Int := match firstI p l with
  | some (i, _) => i
  | none => -1
theorem firstI_at {p : Share → Bool} : ∀ {l : List Share} {k : Nat} {x : Share}, l[k]? = some x → (∀ y ∈ l.take k, p y = false) → p x = true → firstI p l = some (k, x)
  | [], k, x, h, _, _ => by simp at h
  | y :: r, 0, x, h, _, hp => by simp at h; subst h; rw [firstI, if_pos hp]
  | y :: r, k + 1, x, h, hn, hp => by
    have h1 := hn y (by simp)
    have := firstI_at (l := r) (k := k) (x := x) (by simpa using h) (fun z hz => hn z (by simp [hz])) hp
    rw [firstI, if_neg (by simp [h1]), this]
theorem firstI_all {p : Share → Bool} : ∀ {l : List Share}, (∀ y ∈ l, p y = false) → firstI p l = none
  | [], _ => rfl
  | y :: r, h => by rw [firstI, if_neg (by simp [h y (by simp)]), firstI_all fun z hz => h z (by simp [hz])]
def isZ (x : Share) : Bool := decide (x.a = 0)
theorem nzl_none {l : List Share} (h : ∀ x ∈ l, isZ x = false) : nzl l = l := List.filter_eq_self.2 fun x hx => by have := h x hx; simpa [isZ] using this
theorem nzl_take_yes {l : List Share} {k : Nat} {x : Share} (hx : l[k]? = some x) (h : x.a ≠ 0) : nzl (l.take (k + 1)) = nzl (l.take k) ++ [x] := by
  unfold nzl; rw [take_snoc _ _ _ hx, List.filter_append]; simp [h]
theorem nzl_take_no {l : List Share} {k : Nat} {x : Share} (hx : l[k]? = some x) (h : x.a = 0) : nzl (l.take (k + 1)) = nzl (l.take k) := by
  unfold nzl; rw [take_snoc _ _ _ hx, List.filter_append]; simp [h]
theorem firstI_take {p : Share → Bool} : ∀ {l : List Share} {k : Nat} {x : Share}, firstI p l = some (k, x) → ∀ y ∈ l.take k, p y = false
  | [], k, x, h, y, hy => by simp [firstI] at h
  | z :: r, k, x, h, y, hy => by
    rw [firstI] at h
    split at h
    · cases h; simp at hy
    · rename_i hz
      split at h
      · rename_i j w hj
        cases h
        rcases List.mem_cons.1 (by simpa using hy) with rfl | hy
        · simpa using hz
        · exact firstI_take hj y hy
      · cases h
/-- The state of striking out: what is kept stands ahead, what was not looked at stands where it stood. -/
structure Del (l : List Share) (i k : Nat) (es : List (List CV)) (f : Share → List CV) : Prop where
  len : es.length = l.length
  lt : i < k
  le : k ≤ l.length
  kept : es.take i = (nzl (l.take k)).map f
  num : (nzl (l.take k)).length = i
  rest : ∀ j, k ≤ j → es[j]? = (l[j]?).map f
  rows : ∀ r ∈ es, r.length = 2
theorem Del.start {l : List Share} {i : Nat} {x : Share} {f : Share → List CV} (h2f : ∀ x, (f x).length = 2) (hf : firstI isZ l = some (i, x)) : Del l i (i + 1) (l.map f) f := by
  obtain ⟨h1, h2⟩ := firstI_get hf
  have h3 := (List.getElem?_eq_some_iff.1 h1).1
  have h4 : nzl (l.take (i + 1)) = l.take i := by
    rw [nzl_take_no h1 (by simpa [isZ] using h2)]
    exact nzl_none (firstI_take hf)
  refine ⟨by simp, by omega, by omega, by rw [h4, List.map_take], by rw [h4, List.length_take]; omega, fun j _ => by rw [List.getElem?_map], fun r hr => by obtain ⟨y, _, rfl⟩ := List.mem_map.1 hr; exact h2f y⟩
theorem Del.skip {l : List Share} {i k : Nat} {es : List (List CV)} {f : Share → List CV} (h : Del l i k es f) {x : Share} (hx : l[k]? = some x) (hz : x.a = 0) : Del l i (k + 1) es f := by
  have h3 := (List.getElem?_eq_some_iff.1 hx).1
  have h4 := nzl_take_no hx hz
  exact ⟨h.len, by have := h.lt; omega, by omega, by rw [h4]; exact h.kept, by rw [h4]; exact h.num, fun j hj => h.rest j (by omega), h.rows⟩
theorem two {r : List CV} (h : r.length = 2) : ∃ a b, r = [a, b] := by
  match r, h with
  | [a, b], _ => exact ⟨a, b, rfl⟩
theorem Del.keep {l : List Share} {i k : Nat} {es : List (List CV)} {f : Share → List CV} (h2f : ∀ x, (f x).length = 2) (h : Del l i k es f) {x : Share} (hx : l[k]? = some x) (hz : x.a ≠ 0) : Del l (i + 1) (k + 1) (es.set i (f x)) f := by
  have h3 := (List.getElem?_eq_some_iff.1 hx).1
  have h4 := nzl_take_yes hx hz
  have hl := h.len
  have hlt := h.lt
  refine ⟨by simpa using hl, by omega, by omega, ?_, by rw [h4, List.length_append, h.num]; rfl, fun j hj => ?_, fun r hr => ?_⟩
  · rw [h4, List.map_append, ← h.kept]
    have : (es.set i (f x))[i]? = some (f x) := List.getElem?_set_self (by omega)
    rw [take_snoc _ _ _ this, List.take_set]
    rw [List.set_eq_of_length_le (by rw [List.length_take]; omega)]
    rfl
  · rw [List.getElem?_set_ne (by omega)]; exact h.rest j (by omega)
  · rcases List.mem_or_eq_of_mem_set hr with hr | rfl
    · exact h.rows r hr
    · exact h2f x
end Go.Proofs.YtpkhannkbafimaaGreat
