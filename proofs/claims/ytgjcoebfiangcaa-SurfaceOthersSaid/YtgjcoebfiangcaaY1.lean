/- Surfaces, plain. No program in sight. -/
import Derived.Test.YtgjcoebfiangcaaE3
namespace Go.Proofs.Ytgjcoebfiangcaa
open Go.RowKit
/-- The first error of the first n elements. -/
def fe (f : Nat → Int) : Nat → Int
  | 0 => 0
  | k + 1 => if fe f k ≠ 0 then fe f k else f k
theorem fe_go {f : Nat → Int} {k : Nat} (h0 : fe f k = 0) (h : f k = 0) : fe f (k + 1) = 0 := by rw [fe, if_neg (by omega), h]
theorem fe_stay {f : Nat → Int} {k : Nat} (h : fe f k ≠ 0) : ∀ m : Nat, fe f (k + m) = fe f k
  | 0 => rfl
  | m + 1 => by
    have ih := fe_stay h m
    show fe f (k + m + 1) = _
    rw [fe, if_pos (by rw [ih]; exact h), ih]
theorem fe_hit {f : Nat → Int} {n k : Nat} {e : Int} (hk : k < n) (h0 : fe f k = 0) (h : f k = e) (he : e ≠ 0) : fe f n = e := by
  have h1 : fe f (k + 1) = e := by rw [fe, if_neg (by omega), h]
  obtain ⟨m, rfl⟩ : ∃ m, n = k + 1 + m := ⟨n - (k + 1), by omega⟩
  rw [fe_stay (by rw [h1]; exact he), h1]
theorem fe_all {f : Nat → Int} : ∀ {n : Nat}, fe f n = 0 → ∀ k < n, f k = 0
  | 0, _, k, hk => by omega
  | n + 1, h, k, hk => by
    rw [fe] at h
    split at h
    · rename_i h1; exact absurd h h1
    · rename_i h1
      have h1 : fe f n = 0 := Decidable.not_not.1 h1
      by_cases e : k = n
      · subst e; exact h
      · exact fe_all h1 k (by omega)
def at_ {α : Type} (l : List α) (z : α) (k : Nat) : α := l.getD k z
theorem at_of {α : Type} {l : List α} {z : α} {k : Nat} {x : α} (h : l[k]? = some x) : at_ l z k = x := by simp [at_, List.getD, h]
theorem first_step {α : Type} {p : α → Bool} {l : List α} {k : Nat} {x : α} (hx : l[k]? = some x) (hn : ∀ y ∈ l.take k, p y = false) (h : p x = false) : ∀ y ∈ l.take (k + 1), p y = false := by
  intro y hy
  rw [take_snoc l k x hx] at hy
  rcases List.mem_append.1 hy with h' | h'
  · exact hn y h'
  · rw [List.mem_singleton] at h'; subst h'; exact h
/-- The index of the first element that p holds of, -1 if there is none. -/
def ixF {α : Type} (p : α → Bool) (l : List α) : Int := match l.findIdx? p with
  | some i => i
  | none => -1
theorem ix_hit {α : Type} {p : α → Bool} {l : List α} {k : Nat} {x : α} (hx : l[k]? = some x) (hn : ∀ y ∈ l.take k, p y = false) (h : p x = true) : ixF p l = k := by
  obtain ⟨hk, rfl⟩ := List.getElem?_eq_some_iff.1 hx
  have : l.findIdx? p = some k := by
    rw [List.findIdx?_eq_some_iff_getElem]
    refine ⟨hk, h, fun j hj => ?_⟩
    have := hn l[j] (List.mem_of_getElem? (i := j) (by rw [List.getElem?_take, if_pos hj, List.getElem?_eq_getElem]))
    simp [this]
  unfold ixF; rw [this]
theorem ix_none {α : Type} {p : α → Bool} {l : List α} (hn : ∀ y ∈ l, p y = false) : ixF p l = -1 := by
  have : l.findIdx? p = none := by
    rw [List.findIdx?_eq_none_iff]
    intro x hx; simp [hn x hx]
  unfold ixF; rw [this]
theorem ix_cases {α : Type} (p : α → Bool) (l : List α) : (ixF p l = -1 ∧ l.any p = false) ∨ ∃ (k : Nat) (x : α), ixF p l = (k : Int) ∧ l[k]? = some x ∧ p x = true ∧ (∀ y ∈ l.take k, p y = false) ∧ l.any p = true := by
  cases h : l.findIdx? p with
  | none =>
    refine .inl ⟨by unfold ixF; rw [h], ?_⟩
    rw [List.findIdx?_eq_none_iff] at h
    rw [List.any_eq_false]
    intro x hx; simp [h x hx]
  | some k =>
    obtain ⟨hk, h1, h2⟩ := List.findIdx?_eq_some_iff_getElem.1 h
    refine .inr ⟨k, l[k], by unfold ixF; rw [h], List.getElem?_eq_getElem hk, h1, fun y hy => ?_, List.any_eq_true.2 ⟨_, List.getElem_mem hk, h1⟩⟩
    obtain ⟨j, hj⟩ := List.getElem?_of_mem hy
    rw [List.getElem?_take] at hj
    split at hj
    · rename_i hjk
      have := h2 j hjk
      rw [List.getElem?_eq_getElem (by omega)] at hj
      cases hj; simpa using this
    · cases hj
theorem ix_lt {α : Type} {p : α → Bool} {l : List α} : ixF p l < l.length := by
  rcases ix_cases p l with ⟨h, _⟩ | ⟨k, x, h, hx, _⟩
  · omega
  · have := (List.getElem?_eq_some_iff.1 hx).1; omega
structure Sf where
  run : Int
  gr : Int
  tr : Int
deriving DecidableEq
def sf0 : Sf := ⟨0, 0, 0⟩
abbrev encS (x : Sf) : List CV := [.int .i64 x.run, .int .i64 x.gr, .int .i64 x.tr]
abbrev aS (x : Sf) : SV := .agg ((encS x).map .c)
def sfP (x : Sf) : Prop := (1 ≤ x.run ∧ x.run ≤ 9999) ∧ (-1 ≤ x.gr ∧ x.gr ≤ 20000000) ∧ 0 ≤ x.tr ∧ x.tr ≤ 1000000
instance (x : Sf) : Decidable (sfP x) := by unfold sfP; infer_instance
/-- The error of the surface at k. -/
def sfE (l : List Sf) (k : Nat) : Int := if ¬ sfP (at_ l sf0 k) then 2 else if 0 < k ∧ (at_ l sf0 k).run ≤ (at_ l sf0 (k - 1)).run then 11 else 0
def rightS (l : List Sf) : Int := if 64 < l.length then 4 else fe (sfE l) l.length
def runB (n : Int) (x : Sf) : Bool := decide (x.run = n)
def chgS (g : Sf → Sf × Int) (l : List Sf) (k : Nat) : List Sf × Int := if (g (at_ l sf0 k)).2 ≠ 0 then ([], (g (at_ l sf0 k)).2) else (l.set k (g (at_ l sf0 k)).1, 0)
def onS (g : Sf → Sf × Int) (l : List Sf) (run : Int) : List Sf × Int := if ixF (runB run) l < 0 then ([], 8) else chgS g l (ixF (runB run) l).toNat
def groomS (t : Int) (x : Sf) : Sf × Int := if t < x.gr ∨ 20000000 < t ∨ t < 0 then (sf0, 11) else (⟨x.run, t, 0⟩, 0)
def descS (n : Int) (x : Sf) : Sf × Int := if n < 0 ∨ 10000 < n then (sf0, 2) else (⟨x.run, x.gr, min (x.tr + n) 1000000⟩, 0)
theorem on_no {g : Sf → Sf × Int} {l : List Sf} {run : Int} (h : ixF (runB run) l = -1) : onS g l run = ([], 8) := if_pos (by omega)
theorem on_at {g : Sf → Sf × Int} {l : List Sf} {run : Int} {k : Nat} {x : Sf} (h : ixF (runB run) l = (k : Int)) (hx : l[k]? = some x) : onS g l run = if (g x).2 ≠ 0 then ([], (g x).2) else (l.set k (g x).1, 0) := by
  unfold onS; rw [if_neg (by omega), h, Int.toNat_natCast]; unfold chgS; rw [at_of hx]
theorem sf_iff (l : List Sf) : rightS l = 0 ↔ l.length ≤ 64 ∧ (∀ (k : Nat) (x : Sf), l[k]? = some x → sfP x) ∧ ∀ (k : Nat) (x y : Sf), l[k]? = some y → l[k + 1]? = some x → y.run < x.run := by
  unfold rightS
  constructor
  · intro h
    split at h
    · omega
    rename_i h1
    have key : ∀ (k : Nat) (x : Sf), l[k]? = some x → sfP x ∧ (0 < k → (at_ l sf0 (k - 1)).run < x.run) := by
      intro k x hx
      have hE := fe_all h k (List.getElem?_eq_some_iff.1 hx).1
      unfold sfE at hE
      rw [at_of hx] at hE
      split at hE
      · omega
      rename_i h2
      split at hE
      · omega
      rename_i h3
      exact ⟨Decidable.not_not.1 h2, fun h0 => by have := fun q => h3 ⟨h0, q⟩; omega⟩
    refine ⟨by omega, fun k x hx => (key k x hx).1, fun k x y hy hx => ?_⟩
    have := (key (k + 1) x hx).2 (by omega)
    rw [Nat.add_sub_cancel, at_of hy] at this; exact this
  · rintro ⟨h1, h2, h3⟩
    rw [if_neg (by omega)]
    have key : ∀ n, n ≤ l.length → fe (sfE l) n = 0 := by
      intro n
      induction n with
      | zero => intro _; rfl
      | succ n ih =>
        intro hn
        obtain ⟨x, hx⟩ := getElem_some (show n < l.length by omega)
        refine fe_go (ih (by omega)) ?_
        unfold sfE
        rw [at_of hx, if_neg (Decidable.not_not.2 (h2 n x hx))]
        refine if_neg fun ⟨hz, hq⟩ => ?_
        obtain ⟨m, rfl⟩ : ∃ m, n = m + 1 := ⟨n - 1, by omega⟩
        obtain ⟨y, hy⟩ := getElem_some (show m < l.length by omega)
        rw [Nat.add_sub_cancel, at_of hy] at hq
        have := h3 m x y hy hx
        omega
    exact key _ (Nat.le_refl _)
theorem len_of {l : List Sf} (h : rightS l = 0) : l.length ≤ 64 := ((sf_iff l).1 h).1
/-- What a call that went well did. -/
theorem on_ok {g : Sf → Sf × Int} {l x : List Sf} {run : Int} (h : onS g l run = (x, 0)) : ∃ (k : Nat) (was : Sf), l[k]? = some was ∧ was.run = run ∧ (g was).2 = 0 ∧ x = l.set k (g was).1 := by
  rcases ix_cases (runB run) l with ⟨h1, _⟩ | ⟨k, was, h1, h2, h3, _⟩
  · rw [on_no h1] at h
    have := congrArg Prod.snd h; simp at this
  · rw [on_at h1 h2] at h
    split at h
    · rename_i he
      exact absurd (congrArg Prod.snd h) he
    · rename_i he
      exact ⟨k, was, h2, of_decide_eq_true h3, Decidable.not_not.1 he, (congrArg Prod.fst h).symm⟩
theorem on_nil {g : Sf → Sf × Int} {l x : List Sf} {run e : Int} (h : onS g l run = (x, e)) (he : e ≠ 0) : x = [] := by
  rcases ix_cases (runB run) l with ⟨h1, _⟩ | ⟨k, was, h1, h2, h3, _⟩
  · rw [on_no h1] at h; exact (congrArg Prod.fst h).symm
  · rw [on_at h1 h2] at h
    split at h
    · exact (congrArg Prod.fst h).symm
    · exact absurd (congrArg Prod.snd h).symm he
theorem set_rightS {l : List Sf} {k : Nat} {was z : Sf} (h : rightS l = 0) (hk : l[k]? = some was) (hr : z.run = was.run) (hz : sfP z) : rightS (l.set k z) = 0 := by
  rw [sf_iff] at h ⊢
  obtain ⟨h1, h2, h3⟩ := h
  have hkl := (List.getElem?_eq_some_iff.1 hk).1
  have hget : ∀ (i : Nat) (y : Sf), (l.set k z)[i]? = some y → ∃ w, l[i]? = some w ∧ w.run = y.run ∧ (y = z ∨ y = w) := by
    intro i y hy
    by_cases e : k = i
    · subst e
      rw [List.getElem?_set_self hkl] at hy
      cases hy; exact ⟨was, hk, hr.symm, .inl rfl⟩
    · rw [List.getElem?_set_ne e] at hy
      exact ⟨y, hy, rfl, .inr rfl⟩
  refine ⟨by rw [List.length_set]; exact h1, fun i x hx => ?_, fun i x y hy hx => ?_⟩
  · obtain ⟨w, hw, _, rfl | rfl⟩ := hget i x hx
    · exact hz
    · exact h2 i _ hw
  · obtain ⟨w, hw, e1, _⟩ := hget i y hy
    obtain ⟨v, hv, e2, _⟩ := hget (i + 1) x hx
    have := h3 i v w hw hv
    omega
theorem groom_sf {t : Int} {x : Sf} (h : (groomS t x).2 = 0) : (groomS t x).1.run = x.run ∧ (sfP x → sfP (groomS t x).1) := by
  unfold groomS at *
  split at h
  · cases h
  · rename_i h1
    rw [if_neg h1]
    refine ⟨rfl, fun hx => ?_⟩
    unfold sfP at *
    dsimp only; omega
theorem desc_sf {n : Int} {x : Sf} (h : (descS n x).2 = 0) : ((descS n x).1.run = x.run ∧ (descS n x).1.gr = x.gr) ∧ (sfP x → sfP (descS n x).1) := by
  unfold descS at *
  split at h
  · cases h
  · rename_i h1
    rw [if_neg h1]
    refine ⟨⟨rfl, rfl⟩, fun hx => ?_⟩
    unfold sfP at *
    dsimp only; omega
theorem take_le {α : Type} {l : List α} {k n : Nat} (h : l.length ≤ n) : (l.take k).length ≤ n := by rw [List.length_take]; omega

end Go.Proofs.Ytgjcoebfiangcaa
