/- Merging two stores: the function that both programs compute. Plain. -/
import Derived.Test.YtfghmpfiemmbgaaMerge
namespace Go.Proofs.Ytfghmpfiemmbgaa

instance : ∀ a b : Ride, Decidable (before a b) := fun a b => by unfold before; infer_instance
def mrg : Nat → List Ride → List Ride → Option (List Ride)
  | 0, _, _ => some []
  | _ + 1, [], b => some b
  | _ + 1, a, [] => some a
  | n + 1, x :: a, y :: b => if before x y then (mrg n a (y :: b)).map (x :: ·) else if before y x then (mrg n (x :: a) b).map (y :: ·) else if x = y then (mrg n a b).map (x :: ·) else none
inductive MR where
  | bad (e : Int)
  | ok (m : List Ride)
def mergeF (a b : List Ride) : MR :=
  match mrg (a.length + b.length + 1) a b with
  | none => .bad 15
  | some m => if 2000 < m.length then .bad 9 else .ok m

theorem isMerge_swap {a b m : List Ride} (h : IsMerge a b m) : IsMerge b a m := ⟨h.1, fun x => (h.2 x).trans Or.comm⟩
theorem isMerge_cons {x : Ride} {a b m : List Ride} (h : IsMerge a b m) (hx : ∀ y ∈ a, before x y) (hb : ∀ y ∈ b, before x y) : IsMerge (x :: a) b (x :: m) :=
  ⟨List.pairwise_cons.2 ⟨fun y hy => ((h.2 y).1 hy).elim (hx y) (hb y), h.1⟩, fun z => by simp [h.2 z, or_assoc]⟩
theorem isMerge_both {x : Ride} {a b m : List Ride} (h : IsMerge a b m) (hx : ∀ y ∈ a, before x y) (hb : ∀ y ∈ b, before x y) : IsMerge (x :: a) (x :: b) (x :: m) :=
  ⟨List.pairwise_cons.2 ⟨fun y hy => ((h.2 y).1 hy).elim (hx y) (hb y), h.1⟩, fun z => by simp only [List.mem_cons, h.2 z]; by_cases e1 : z = x <;> by_cases e2 : z ∈ a <;> by_cases e3 : z ∈ b <;> simp [e1, e2, e3]⟩
theorem conflict_consA {x : Ride} {a b : List Ride} (h : conflict a b) : conflict (x :: a) b := by
  obtain ⟨r, hr, s, hs, h⟩ := h; exact ⟨r, hr, s, by simp [hs], h⟩
theorem conflict_consB {x : Ride} {a b : List Ride} (h : conflict a b) : conflict a (x :: b) := by
  obtain ⟨r, hr, s, hs, h⟩ := h; exact ⟨r, by simp [hr], s, hs, h⟩
theorem mrg_spec : ∀ (n : Nat) (a b : List Ride), a.length + b.length < n → Sorted a → Sorted b → (mrg n a b = none ∧ conflict a b) ∨ ∃ m, mrg n a b = some m ∧ IsMerge a b m
  | 0, _, _, h, _, _ => by omega
  | n + 1, [], b, _, _, hb => .inr ⟨b, by simp [mrg], hb, by simp⟩
  | n + 1, x :: a, [], _, ha, _ => .inr ⟨x :: a, by simp [mrg], ha, by simp⟩
  | n + 1, x :: a, y :: b, h, ha, hb => by
    obtain ⟨ha1, ha2⟩ := List.pairwise_cons.1 ha
    obtain ⟨hb1, hb2⟩ := List.pairwise_cons.1 hb
    simp only [List.length_cons] at h
    rw [mrg]
    by_cases h1 : before x y
    · rw [if_pos h1]
      rcases mrg_spec n a (y :: b) (by simp; omega) ha2 hb with ⟨e, hc⟩ | ⟨m, e, hm⟩
      · exact .inl ⟨by rw [e]; rfl, conflict_consA hc⟩
      · refine .inr ⟨x :: m, by rw [e]; rfl, isMerge_cons hm ha1 fun z hz => ?_⟩
        rcases List.mem_cons.1 hz with rfl | hz
        · exact h1
        · exact before_trans h1 (hb1 z hz)
    · rw [if_neg h1]
      by_cases h2 : before y x
      · rw [if_pos h2]
        rcases mrg_spec n (x :: a) b (by simp; omega) ha hb2 with ⟨e, hc⟩ | ⟨m, e, hm⟩
        · exact .inl ⟨by rw [e]; rfl, conflict_consB hc⟩
        · refine .inr ⟨y :: m, by rw [e]; rfl, isMerge_swap (isMerge_cons (isMerge_swap hm) hb1 fun z hz => ?_)⟩
          rcases List.mem_cons.1 hz with rfl | hz
          · exact h2
          · exact before_trans h2 (ha1 z hz)
      · rw [if_neg h2]
        have hk : key x = key y := ((before_tri x y).resolve_left h1).resolve_left h2
        by_cases h3 : x = y
        · subst h3
          rw [if_pos rfl]
          rcases mrg_spec n a b (by omega) ha2 hb2 with ⟨e, hc⟩ | ⟨m, e, hm⟩
          · exact .inl ⟨by rw [e]; rfl, conflict_consA (conflict_consB hc)⟩
          · exact .inr ⟨x :: m, by rw [e]; rfl, isMerge_both hm ha1 hb1⟩
        · rw [if_neg h3]
          exact .inl ⟨rfl, y, by simp, x, by simp, hk, h3⟩

/-- What a program that finds a conflict, or a merged list, returns. -/
theorem mergeF_conflict {a b : List Ride} (ha : Sorted a) (hb : Sorted b) (h : conflict a b) : mergeF a b = .bad 15 := by
  rcases mrg_spec (a.length + b.length + 1) a b (by omega) ha hb with ⟨e, _⟩ | ⟨m, e, hm⟩
  · unfold mergeF; rw [e]
  · exact absurd h hm.agree
theorem mergeF_merge {a b l : List Ride} (ha : Sorted a) (hb : Sorted b) (h : IsMerge a b l) : mergeF a b = if 2000 < l.length then .bad 9 else .ok l := by
  rcases mrg_spec (a.length + b.length + 1) a b (by omega) ha hb with ⟨e, hc⟩ | ⟨m, e, hm⟩
  · exact absurd hc h.agree
  · unfold mergeF; rw [e, hm.uniq h]
end Go.Proofs.Ytfghmpfiemmbgaa
