/- Tables of nine numbers in two parts; what Valid tells. No program in sight. -/
import Derived.Test.YtpkhannkbafimaaGreatP6
namespace Go.Proofs.YtpkhannkbafimaaGreat

def tabP (H L : Nat → Int) : List (List CV) := (List.range 9).map fun v => [.int .i64 (H v), .int .i64 (L v)]
def updF (H : Nat → Int) (i : Nat) (x : Int) : Nat → Int := fun v => if v = i then x else H v
theorem tabP_get {H L : Nat → Int} {i : Nat} (h : i < 9) : (tabP H L)[i]? = some [.int .i64 (H i), .int .i64 (L i)] := by
  unfold tabP; rw [List.getElem?_map, List.getElem?_range h]; rfl
theorem tabP_len (H L : Nat → Int) : (tabP H L).length = 9 := by simp [tabP]
theorem tabP_set {H L : Nat → Int} {i : Nat} {x y : Int} : (tabP H L).set i [.int .i64 x, .int .i64 y] = tabP (updF H i x) (updF L i y) := by
  apply List.ext_getElem?
  intro j
  by_cases hj : j < 9
  · rw [tabP_get hj]
    by_cases e : i = j
    · subst e; rw [List.getElem?_set_self (by rw [tabP_len]; exact hj)]; simp [updF]
    · rw [List.getElem?_set_ne e, tabP_get hj]; simp [updF, Ne.symm e]
  · rw [List.getElem?_eq_none (by simp [tabP]; omega), List.getElem?_eq_none (by rw [tabP_len]; omega)]
theorem tabP_row (H L : Nat → Int) : ∀ r ∈ tabP H L, r.length = 2 := by
  intro r hr
  obtain ⟨v, _, rfl⟩ := List.mem_map.1 hr
  rfl
theorem posAt_take {l : List Share} {k : Nat} {x : Share} (h : l[k]? = some x) (v : Int) : posAt (l.take (k + 1)) v = posAt (l.take k) v + if x.o = v then x.a else 0 := by
  rw [take_snoc l k x h, posAt_snoc]
theorem bal_take {t : List Tfer} {k : Nat} {x : Tfer} (h : t[k]? = some x) (v : Int) : bal (t.take (k + 1)) v = bal (t.take k) v + ((if x.t = v then x.a else 0) - (if x.f = v then x.a else 0)) := by
  rw [take_snoc t k x h, bal_app]
  simp [bal]
instance (x : Tfer) : Decidable (okV x) := by unfold okV; infer_instance
def validB (l : List Share) (t : List Tfer) : Bool := t.all (fun x => decide (okV x)) && opsL.all fun v => decide (bal t v = posAt l v)
theorem validB_iff {l : List Share} {t : List Tfer} : validB l t = true ↔ ValidP l t := by
  unfold validB ValidP
  simp only [Bool.and_eq_true, List.all_eq_true, decide_eq_true_eq]
  exact ⟨fun ⟨h1, h2⟩ => ⟨h1, fun v hv => h2 v (mem_ops.2 hv)⟩, fun ⟨h1, h2⟩ => ⟨h1, fun v hv => h2 v (mem_ops.1 hv)⟩⟩
theorem valid_bad {l : List Share} {t : List Tfer} {k : Nat} {x : Tfer} (h : t[k]? = some x) (hb : ¬ okV x) : validB l t = false := by
  cases hv : validB l t with
  | false => rfl
  | true => exact absurd ((validB_iff.1 hv).1 x (List.mem_of_getElem? h)) hb
theorem posAt_none : ∀ {l : List Share} {v : Int}, (∀ x ∈ l, x.o ≠ v) → posAt l v = 0
  | [], _, _ => rfl
  | x :: r, v, h => by rw [posAt, if_neg (h x (by simp)), posAt_none fun y hy => h y (by simp [hy])]; rfl
theorem bal_none : ∀ {t : List Tfer} {v : Int}, (∀ x ∈ t, x.f ≠ v ∧ x.t ≠ v) → bal t v = 0
  | [], _, _ => rfl
  | x :: r, v, h => by
    obtain ⟨h1, h2⟩ := h x (by simp)
    rw [bal, if_neg h1, if_neg h2, bal_none fun y hy => h y (by simp [hy])]; rfl
theorem valid_yes {l : List Share} {t : List Tfer} (h1 : ∀ x ∈ t, okV x) (h2 : ∀ v : Nat, v < 9 → bal t v - posAt l v = 0) : validB l t = true := by
  refine validB_iff.2 ⟨h1, fun v hv => ?_⟩
  obtain ⟨n, rfl⟩ := Int.eq_ofNat_of_zero_le (show 0 ≤ v by unfold okO at hv; omega)
  have := h2 n (by unfold okO at hv; omega)
  omega
theorem valid_no {l : List Share} {t : List Tfer} (hl : RightP l) (h1 : ∀ x ∈ t, okV x) {k : Nat} (hk : k < 9) (h2 : bal t k - posAt l k ≠ 0) : validB l t = false := by
  cases hv : validB l t with
  | false => rfl
  | true =>
    by_cases h0 : k = 0
    · subst h0
      refine absurd ?_ h2
      rw [bal_none (fun x hx => by have := h1 x hx; unfold okV okO at this; omega), posAt_none (fun x hx => by have := (hl.ok x hx).1; omega)]; rfl
    · have := (validB_iff.1 hv).2 k (by unfold okO; omega)
      omega
theorem all_step {α : Type} {p : α → Prop} {l : List α} {k : Nat} {x : α} (hx : l[k]? = some x) (h : ∀ y ∈ l.take k, p y) (h1 : p x) : ∀ y ∈ l.take (k + 1), p y := by
  rw [take_snoc _ _ _ hx]
  intro y hy
  rcases List.mem_append.1 hy with hy | hy
  · exact h y hy
  · simp at hy; subst hy; exact h1
def bnd (h l : Int) (c : Nat) : Prop := (-2097152 * (c : Int) ≤ h ∧ h ≤ 2097152 * (c : Int)) ∧ -1048576 * (c : Int) ≤ l ∧ l ≤ 1048576 * (c : Int)
theorem bnd0 : bnd 0 0 0 := by unfold bnd; simp
theorem inv_add {H L : Nat → Int} {val : Nat → Int} {c i : Nat} {n sg : Int} (hinv : ∀ v, v < 9 → H v * 1048576 + L v = val v ∧ bnd (H v) (L v) c) (hi : i < 9) (hsg : sg = 1 ∨ sg = -1) (hn : -1099511627776 ≤ n ∧ n ≤ 1099511627776) :
    ∀ v, v < 9 → updF H i (H i + sg * (n / 1048576)) v * 1048576 + updF L i (L i + sg * (n % 1048576)) v = val v + (if v = i then sg * n else 0) ∧ bnd (updF H i (H i + sg * (n / 1048576)) v) (updF L i (L i + sg * (n % 1048576)) v) (c + 1) := by
  intro v hv
  obtain ⟨h1, h2⟩ := hinv v hv
  unfold bnd at h2 ⊢
  by_cases e : v = i
  · subst e
    simp only [updF, if_true]
    rcases hsg with h | h <;> subst h <;> exact ⟨by omega, ⟨by omega, by omega⟩, by omega, by omega⟩
  · simp only [updF, if_neg e]
    exact ⟨by omega, ⟨by omega, by omega⟩, by omega, by omega⟩
theorem if_op {x : Int} {v : Nat} {a : Int} (h : okO x) : (if x = (v : Int) then a else 0) = if v = x.toNat then a else 0 := by
  unfold okO at h
  by_cases e : x = (v : Int)
  · rw [if_pos e, if_pos (by omega)]
  · rw [if_neg e, if_neg (by omega)]
end Go.Proofs.YtpkhannkbafimaaGreat
