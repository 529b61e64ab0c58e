/- Plain definitions and facts for the rides: no program in sight. -/
namespace Go.Proofs.Ytfghmpfiemmbgaa

structure Ride where
  gate : Int
  seq : Int
  serial : Int
  counter : Int
  product : Int
  lift : Int
  at_ : Int

instance : DecidableEq Ride := fun a b =>
  if h : a.gate = b.gate ∧ a.seq = b.seq ∧ a.serial = b.serial ∧ a.counter = b.counter ∧ a.product = b.product ∧ a.lift = b.lift ∧ a.at_ = b.at_ then isTrue (by cases a; cases b; simp_all) else isFalse (by rintro rfl; simp at h)

/-- The fields are in their ranges. -/
def okR (r : Ride) : Prop := 1 ≤ r.gate ∧ r.gate ≤ 9999 ∧ 1 ≤ r.serial ∧ r.serial ≤ 9999 ∧ 1 ≤ r.product ∧ r.product ≤ 9999 ∧ 1 ≤ r.lift ∧ r.lift ≤ 9999 ∧ 1 ≤ r.seq ∧ r.seq ≤ 1000000 ∧ 1 ≤ r.counter ∧ r.counter ≤ 1000000 ∧ 0 ≤ r.at_ ∧ r.at_ ≤ 20000000
instance (r : Ride) : Decidable (okR r) := by unfold okR; infer_instance

/-- a precedes b in a store. -/
def before (a b : Ride) : Prop := a.gate < b.gate ∨ a.gate = b.gate ∧ a.seq < b.seq
instance (a b : Ride) : Decidable (before a b) := by unfold before; infer_instance

theorem drop_of {α : Type} {xs : List α} {k : Nat} {x : α} (hx : xs[k]? = some x) : xs.drop k = x :: xs.drop (k + 1) := by
  obtain ⟨hk, rfl⟩ := List.getElem?_eq_some_iff.1 hx
  exact List.drop_eq_getElem_cons hk
theorem drop_end {α : Type} {xs : List α} {k : Nat} (hk : ¬ k < xs.length) : xs.drop k = [] := List.drop_eq_nil_of_le (by omega)
theorem take_snoc {α : Type} (l : List α) (k : Nat) (y : α) (h : l[k]? = some y) : l.take (k + 1) = l.take k ++ [y] := by
  rw [List.take_add_one, h]; rfl

/-- The ride p, if there is one, precedes r. -/
def follows (p : Option Ride) (r : Ride) : Prop := match p with | none => True | some q => before q r
instance (p : Option Ride) (r : Ride) : Decidable (follows p r) := by cases p <;> (unfold follows; infer_instance)
/-- The first error of the rides, behind the ride p (none: the first ride has nothing ahead of it). -/
def rightFrom : Option Ride → List Ride → Int
  | _, [] => 0
  | p, r :: t => if okR r then (if follows p r then rightFrom (some r) t else 11) else 2
def right (l : List Ride) : Int := if 2000 < l.length then 4 else rightFrom none l

/-- What Right knows at the head of round k. -/
def RightAt (xs : List Ride) (k : Nat) : Prop := ∃ p : Option Ride, rightFrom none xs = rightFrom p (xs.drop k) ∧ (k = 0 → p = none) ∧ (0 < k → p = xs[k - 1]? ∧ p.isSome = true)
theorem RightAt.bad {xs : List Ride} {k : Nat} {x : Ride} (h : RightAt xs k) (hx : xs[k]? = some x) (hok : ¬ okR x) (hl : ¬ 2000 < xs.length) : right xs = 2 := by
  obtain ⟨p, h1, _⟩ := h
  rw [right, if_neg hl, h1, drop_of hx, rightFrom, if_neg hok]
theorem RightAt.next0 {xs : List Ride} {x : Ride} (hx : xs[0]? = some x) (hok : okR x) : RightAt xs 1 := by
  refine ⟨some x, ?_, by omega, fun _ => ⟨by simp [hx], rfl⟩⟩
  have : xs = x :: xs.drop 1 := by simpa using drop_of hx
  conv => lhs; rw [this]
  rw [rightFrom, if_pos hok, if_pos (show follows none x from trivial)]
theorem RightAt.step {xs : List Ride} {k : Nat} {x y : Ride} (h : RightAt xs k) (hx : xs[k]? = some x) (hy : xs[k - 1]? = some y) (h0 : 0 < k) (hok : okR x) (hl : ¬ 2000 < xs.length) :
    (¬ before y x → right xs = 11) ∧ (before y x → RightAt xs (k + 1)) := by
  obtain ⟨p, h1, _, h3⟩ := h
  obtain ⟨h3, _⟩ := h3 h0
  rw [hy] at h3
  subst h3
  rw [drop_of hx, rightFrom, if_pos hok] at h1
  refine ⟨fun h => by rw [right, if_neg hl, h1]; exact if_neg h, fun h => ⟨some x, by rw [h1]; exact if_pos h, by omega, fun _ => ⟨by simp [hx], rfl⟩⟩⟩
theorem RightAt.done {xs : List Ride} {k : Nat} (h : RightAt xs k) (hk : ¬ k < xs.length) (hl : ¬ 2000 < xs.length) : right xs = 0 := by
  obtain ⟨p, h1, _⟩ := h
  rw [right, if_neg hl, h1, drop_end hk, rightFrom]

/-- Rides by Gate, then Seq: less than 0 where a precedes b. -/
def cmpR (a b : Ride) : Int := if a.gate < b.gate then -1 else if b.gate < a.gate then 1 else if a.seq < b.seq then -1 else if b.seq < a.seq then 1 else 0
theorem cmpR_lt (a b : Ride) : cmpR a b < 0 ↔ before a b := by
  unfold cmpR before
  by_cases h1 : a.gate < b.gate
  · simp [h1]
  · by_cases h2 : b.gate < a.gate
    · rw [if_neg h1, if_pos h2]; omega
    · rw [if_neg h1, if_neg h2]
      by_cases h3 : a.seq < b.seq
      · rw [if_pos h3]; omega
      · rw [if_neg h3]; split <;> omega

end Go.Proofs.Ytfghmpfiemmbgaa
