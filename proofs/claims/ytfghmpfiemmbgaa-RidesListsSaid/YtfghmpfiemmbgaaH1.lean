/- Rides: the rides of a medium in their order. Plain. -/
import Derived.Test.YtfghmpfiemmbgaaG6
namespace Go.Proofs.Ytfghmpfiemmbgaa
open Go.RowKit

def earlier (a b : Ride) : Prop := a.at_ < b.at_ ∨ a.at_ = b.at_ ∧ (a.counter < b.counter ∨ a.counter = b.counter ∧ before a b)
instance (a b : Ride) : Decidable (earlier a b) := by unfold earlier; infer_instance
def earlierB (a b : Ride) : Bool := decide (earlier a b)
def cmpOf (a b : Ride) : Int := orI [cmpI a.at_ b.at_, cmpI a.counter b.counter, cmpR a b]
theorem cmpI_lt (a b : Int) : cmpI a b < 0 ↔ a < b := by unfold cmpI; split <;> (try split) <;> omega
theorem cmpI_eq (a b : Int) : cmpI a b = 0 ↔ a = b := by unfold cmpI; split <;> (try split) <;> omega
theorem cmpOf_lt (a b : Ride) : cmpOf a b < 0 ↔ earlier a b := by
  unfold cmpOf earlier orI orI orI orI
  have h1 := cmpI_lt a.at_ b.at_
  have h2 := cmpI_eq a.at_ b.at_
  have h3 := cmpI_lt a.counter b.counter
  have h4 := cmpI_eq a.counter b.counter
  have h5 := cmpR_lt a b
  by_cases e1 : cmpI a.at_ b.at_ = 0
  · rw [if_pos e1]
    by_cases e2 : cmpI a.counter b.counter = 0
    · rw [if_pos e2]
      by_cases e3 : cmpR a b = 0
      · rw [if_pos e3]
        have : ¬ before a b := fun h => by have := h5.2 h; omega
        simp only [this, and_false, or_false]
        omega
      · rw [if_neg e3, h5]
        have := h2.1 e1
        have := h4.1 e2
        constructor
        · intro h; right; exact ⟨by omega, .inr ⟨by omega, h⟩⟩
        · rintro (h | ⟨_, h | ⟨_, h⟩⟩)
          · omega
          · omega
          · exact h
    · rw [if_neg e2, h3]
      have := h2.1 e1
      constructor
      · intro h; right; exact ⟨by omega, .inl h⟩
      · rintro (h | ⟨_, h | ⟨h, _⟩⟩)
        · omega
        · exact h
        · exact absurd (h4.2 h) e2
  · rw [if_neg e1, h1]
    constructor
    · intro h; exact .inl h
    · rintro (h | ⟨h, _⟩)
      · exact h
      · exact absurd (h2.2 h) e1
theorem earlier_irrefl (a : Ride) : ¬ earlier a a := by unfold earlier before; omega
theorem earlier_trans {a b c : Ride} (h1 : earlier a b) (h2 : earlier b c) : earlier a c := by unfold earlier before at *; omega
theorem earlier_ntrans {a b c : Ride} (h1 : ¬ earlier a b) (h2 : ¬ earlier b c) : ¬ earlier a c := by unfold earlier before at *; omega
theorem earlier_key {a b : Ride} (h1 : ¬ earlier a b) (h2 : ¬ earlier b a) : key a = key b := by rw [key_eq]; unfold earlier before at *; omega
abbrev InTime (l : List Ride) : Prop := l.Pairwise fun a b => ¬ earlier b a
def mine (s : Int) (r : Ride) : Bool := decide (r.serial = s)
def ofF (l : List Ride) (s : Int) : List Ride := (l.filter (mine s)).mergeSort fun a b => !decide (earlier b a)
theorem ofF_perm (l : List Ride) (s : Int) : (ofF l s).Perm (l.filter (mine s)) := List.mergeSort_perm _ _
theorem ofF_time (l : List Ride) (s : Int) : InTime (ofF l s) := by
  have h := List.pairwise_mergeSort (le := fun x y : Ride => !decide (earlier y x)) (fun a b c h1 h2 => by simp at *; exact earlier_ntrans h2 h1) (fun a b => by simp; unfold earlier before; omega) (l.filter (mine s))
  exact h.imp fun h => by simpa using h
theorem ofF_uniq {l ys : List Ride} {s : Int} (hs : Sorted l) (hp : ys.Perm (l.filter (mine s))) (hw : InTime ys) : ys = ofF l s := by
  refine List.Perm.eq_of_pairwise (le := fun a b => ¬ earlier b a) (fun a b ha hb h1 h2 => ?_) hw (ofF_time l s) (hp.trans (ofF_perm l s).symm)
  have ha' : a ∈ l := (List.mem_filter.1 (hp.mem_iff.1 ha)).1
  have hb' : b ∈ l := (List.mem_filter.1 ((ofF_perm l s).mem_iff.1 hb)).1
  exact sorted_inj hs ha' hb' (earlier_key h2 h1)
theorem filter_yes {l : List Ride} {s : Int} {k : Nat} {x : Ride} (hx : l[k]? = some x) (h : x.serial = s) : (l.take (k + 1)).filter (mine s) = (l.take k).filter (mine s) ++ [x] := by
  rw [take_snoc _ _ _ hx, List.filter_append]; simp [mine, h]
theorem filter_no {l : List Ride} {s : Int} {k : Nat} {x : Ride} (hx : l[k]? = some x) (h : x.serial ≠ s) : (l.take (k + 1)).filter (mine s) = (l.take k).filter (mine s) := by
  rw [take_snoc _ _ _ hx, List.filter_append]; simp [mine, h]
theorem filter_len (l : List Ride) (s : Int) (k : Nat) : ((l.take k).filter (mine s)).length ≤ l.length :=
  Nat.le_trans (List.length_filter_le _ _) (by simp; omega)
/-- A list with a ride put in at a place. -/
def bub (out : List Ride) (x : Ride) (j : Nat) : List Ride := out.take j ++ x :: out.drop j
theorem bub_len (out : List Ride) (x : Ride) (j : Nat) : (bub out x j).length = out.length + 1 := by
  simp [bub]; omega
theorem bub_end (out : List Ride) (x : Ride) : bub out x out.length = out ++ [x] := by simp [bub]
theorem bub_at {out : List Ride} {x : Ride} {j : Nat} (hj : j ≤ out.length) : (bub out x j)[j]? = some x := by
  rw [bub, List.getElem?_append_right (by simp; omega)]
  simp [Nat.min_eq_left hj]
theorem bub_pre {out : List Ride} {x y : Ride} {j : Nat} (h0 : 0 < j) (hy : out[j - 1]? = some y) : (bub out x j)[j - 1]? = some y := by
  have := (List.getElem?_eq_some_iff.1 hy).1
  rw [bub, List.getElem?_append_left (by simp; omega), List.getElem?_take_of_lt (by omega), hy]
theorem bub_swap {out : List Ride} {x y : Ride} {j : Nat} (h0 : 0 < j) (hj : j ≤ out.length) (hy : out[j - 1]? = some y) : ((bub out x j).set j y).set (j - 1) x = bub out x (j - 1) := by
  apply List.ext_getElem?
  intro i
  have hl := bub_len out x j
  rw [List.getElem?_set, List.getElem?_set]
  simp only [List.length_set, hl]
  by_cases e1 : j - 1 = i
  · subst e1
    rw [if_pos rfl, if_pos (by omega), bub_at (by omega)]
  · rw [if_neg e1]
    by_cases e2 : j = i
    · subst e2
      rw [if_pos rfl, if_pos (by omega), bub, List.getElem?_append_right (by simp; omega)]
      have hjm : j - (List.take (j - 1) out).length = 1 := by simp; omega
      rw [hjm]
      simp [hy]
    · rw [if_neg e2]
      by_cases e3 : i < j - 1
      · rw [bub, bub, List.getElem?_append_left (by simp; omega), List.getElem?_append_left (by simp; omega), List.getElem?_take_of_lt (by omega), List.getElem?_take_of_lt (by omega)]
      · rw [bub, bub, List.getElem?_append_right (by simp; omega), List.getElem?_append_right (by simp; omega)]
        obtain ⟨d, rfl⟩ : ∃ d, i = j + 1 + d := ⟨i - (j + 1), by omega⟩
        have e4 : j + 1 + d - (List.take j out).length = d + 1 := by simp; omega
        have e5 : j + 1 + d - (List.take (j - 1) out).length = d + 2 := by simp; omega
        rw [e4, e5]
        simp only [List.getElem?_cons_succ, List.getElem?_drop]
        congr 1
        omega
theorem bub_time {out : List Ride} {x : Ride} {j : Nat} (ho : InTime out) (h1 : ∀ y ∈ out.drop j, earlier x y) (h2 : j = 0 ∨ ∃ y, out[j - 1]? = some y ∧ ¬ earlier x y) : InTime (bub out x j) := by
  unfold bub
  have hp : InTime (out.take j ++ out.drop j) := by rw [List.take_append_drop]; exact ho
  obtain ⟨p1, p2, p3⟩ := List.pairwise_append.1 hp
  refine List.pairwise_append.2 ⟨p1, List.pairwise_cons.2 ⟨fun y hy he => earlier_irrefl x (earlier_trans (h1 y hy) he), p2⟩, fun a ha b hb => ?_⟩
  rcases List.mem_cons.1 hb with rfl | hb
  · rcases h2 with rfl | ⟨y, hy, hn⟩
    · simp at ha
    · -- a is not later than y, and x is not earlier than y
      intro he
      by_cases hay : a = y
      · subst hay; exact hn he
      · obtain ⟨i, hi, hia⟩ := List.mem_take_iff_getElem.1 ha
        have hj1 := (List.getElem?_eq_some_iff.1 hy).1
        have hyj := (List.getElem?_eq_some_iff.1 hy).2
        have hij : i < j - 1 := by
          have : i ≠ j - 1 := fun e => hay (by subst e; rw [← hia, ← hyj])
          omega
        have := List.pairwise_iff_getElem.1 ho i (j - 1) (by omega) hj1 hij
        rw [hia, hyj] at this
        exact earlier_ntrans hn this he
  · exact p3 a ha b hb
theorem bub_perm (out : List Ride) (x : Ride) (j : Nat) : (bub out x j).Perm (out ++ [x]) := by
  unfold bub
  refine List.Perm.trans List.perm_middle ?_
  rw [List.take_append_drop]
  exact (List.perm_append_singleton x out).symm
end Go.Proofs.Ytfghmpfiemmbgaa
