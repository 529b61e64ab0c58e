/- Incidents: what is right, plain. No program in sight. -/
import Derived.Test.YtoeichkblclfaaaT1
namespace Go.Proofs.Ytoeichkblclfaaa
open Go.RowKit
structure Inc where
  id : Int
  run : Int
  tri : Int
  st : Int
  team : Int
  since : Int
deriving DecidableEq
def inc0 : Inc := ⟨0, 0, 0, 0, 0, 0⟩
/-- The index of the first element that p holds of, -1 if there is none. -/
def ixF {α : Type} (p : α → Bool) (l : List α) : Int := match l.findIdx? p with
  | some i => i
  | none => -1
theorem ix_hit {α : Type} {p : α → Bool} {l : List α} {k : Nat} {x : α} (hx : l[k]? = some x) (hn : ∀ y ∈ l.take k, p y = false) (h : p x = true) : ixF p l = k := by
  obtain ⟨hk, rfl⟩ := List.getElem?_eq_some_iff.1 hx
  have : l.findIdx? p = some k := by
    rw [List.findIdx?_eq_some_iff_getElem]
    refine ⟨hk, h, fun j hj => ?_⟩
    have := hn l[j] (List.mem_of_getElem? (i := j) (by rw [List.getElem?_take, if_pos hj, List.getElem?_eq_getElem]))
    simp [this]
  unfold ixF; rw [this]
theorem ix_none {α : Type} {p : α → Bool} {l : List α} (hn : ∀ y ∈ l, p y = false) : ixF p l = -1 := by
  have : l.findIdx? p = none := by
    rw [List.findIdx?_eq_none_iff]
    intro x hx; simp [hn x hx]
  unfold ixF; rw [this]
theorem ix_cases {α : Type} (p : α → Bool) (l : List α) : (ixF p l = -1 ∧ l.any p = false) ∨ ∃ (k : Nat) (x : α), ixF p l = (k : Int) ∧ l[k]? = some x ∧ p x = true ∧ (∀ y ∈ l.take k, p y = false) ∧ l.any p = true := by
  cases h : l.findIdx? p with
  | none =>
    refine .inl ⟨by unfold ixF; rw [h], ?_⟩
    rw [List.findIdx?_eq_none_iff] at h
    rw [List.any_eq_false]
    intro x hx; simp [h x hx]
  | some k =>
    obtain ⟨hk, h1, h2⟩ := List.findIdx?_eq_some_iff_getElem.1 h
    refine .inr ⟨k, l[k], by unfold ixF; rw [h], List.getElem?_eq_getElem hk, h1, fun y hy => ?_, List.any_eq_true.2 ⟨_, List.getElem_mem hk, h1⟩⟩
    obtain ⟨j, hj⟩ := List.getElem?_of_mem hy
    rw [List.getElem?_take] at hj
    split at hj
    · rename_i hjk
      have := h2 j hjk
      rw [List.getElem?_eq_getElem (by omega)] at hj
      cases hj; simpa using this
    · cases hj
theorem ix_lt {α : Type} {p : α → Bool} {l : List α} : ixF p l < l.length := by
  rcases ix_cases p l with ⟨h, _⟩ | ⟨k, x, h, hx, _⟩
  · omega
  · have := (List.getElem?_eq_some_iff.1 hx).1; omega
def incP (x : Inc) : Prop := (1 ≤ x.id ∧ x.id ≤ 9999) ∧ (1 ≤ x.run ∧ x.run ≤ 9999) ∧ (0 ≤ x.tri ∧ x.tri ≤ 4) ∧ (1 ≤ x.st ∧ x.st ≤ 5) ∧ (0 ≤ x.team ∧ x.team ≤ 9999) ∧ 0 ≤ x.since ∧ x.since ≤ 20000000
instance (x : Inc) : Decidable (incP x) := by unfold incP; infer_instance
def freeP (x : Inc) : Prop := x.st = 1 ∨ x.st = 5
instance (x : Inc) : Decidable (freeP x) := by unfold freeP; infer_instance
def idB (n : Int) (x : Inc) : Bool := decide (x.id = n)
def teamB (n : Int) (x : Inc) : Bool := decide (x.team = n)
/-- The error of the incident at k. -/
def icE (l : List Inc) (k : Nat) : Int := if ¬ incP (at_ l inc0 k) then 2 else if (l.take k).any (idB (at_ l inc0 k).id) = true then 7 else if ¬ ((at_ l inc0 k).team = 0 ↔ freeP (at_ l inc0 k)) then 10 else if (at_ l inc0 k).team ≠ 0 ∧ (l.take k).any (teamB (at_ l inc0 k).team) = true then 15 else 0
def rightI (l : List Inc) : Int := if 64 < l.length then 4 else fe (icE l) l.length
theorem any_step {α : Type} {p : α → Bool} {l : List α} {k : Nat} {x : α} (h : l[k]? = some x) : (l.take (k + 1)).any p = ((l.take k).any p || p x) := by rw [take_snoc l k x h, List.any_append]; simp
theorem any_no {α : Type} {p : α → Bool} {l : List α} (h : ∀ y ∈ l, p y = false) : l.any p = false := by rw [List.any_eq_false]; intro y hy; rw [h y hy]; exact Bool.false_ne_true
theorem any_yes {α : Type} {p : α → Bool} {l : List α} {i k : Nat} {y : α} (hik : i < k) (hy : l[i]? = some y) (h : p y = true) : (l.take k).any p = true := List.any_eq_true.2 ⟨y, List.mem_of_getElem? (i := i) (by rw [List.getElem?_take_of_lt hik]; exact hy), h⟩
theorem take_le {α : Type} {l : List α} {k n : Nat} (h : l.length ≤ n) : (l.take k).length ≤ n := by rw [List.length_take]; omega

end Go.Proofs.Ytoeichkblclfaaa
