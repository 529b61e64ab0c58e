/- Incidents: what calls keep: plain. -/
import Derived.Test.YtoeichkblclfaaaI7
namespace Go.Proofs.Ytoeichkblclfaaa
open Go.RowKit
/-- Right incidents, by pairs. -/
theorem right_iff (l : List Inc) : rightI l = 0 ↔ l.length ≤ 64 ∧ (∀ (k : Nat) (x : Inc), l[k]? = some x → incP x ∧ (x.team = 0 ↔ freeP x)) ∧ ∀ (i k : Nat) (x y : Inc), i < k → l[i]? = some y → l[k]? = some x → y.id ≠ x.id ∧ (x.team ≠ 0 → y.team ≠ x.team) := by
  constructor
  · intro h
    refine ⟨len_of h, fun k x hx => ⟨(ic_of h hx).1, (ic_of h hx).2.2.1⟩, fun i k x y hik hy hx => ?_⟩
    obtain ⟨_, h1, _, h2⟩ := ic_of h hx
    refine ⟨fun e => ?_, fun ht e => ?_⟩
    · rw [any_yes hik hy (show idB x.id y = true from decide_eq_true e)] at h1; cases h1
    · have := h2 ht
      rw [any_yes hik hy (show teamB x.team y = true from decide_eq_true e)] at this; cases this
  · rintro ⟨h1, h2, h3⟩
    refine ic_mk h1 fun k x hx => ?_
    have hin : ∀ y ∈ l.take k, ∃ i, i < k ∧ l[i]? = some y := fun y hy => by
      obtain ⟨i, hi⟩ := List.getElem?_of_mem hy
      rw [List.getElem?_take] at hi
      split at hi
      · exact ⟨i, by assumption, hi⟩
      · cases hi
    refine ⟨(h2 k x hx).1, any_no fun y hy => ?_, (h2 k x hx).2, fun ht => any_no fun y hy => ?_⟩
    · obtain ⟨i, hik, hi⟩ := hin y hy
      exact decide_eq_false (h3 i k x y hik hi hx).1
    · obtain ⟨i, hik, hi⟩ := hin y hy
      exact decide_eq_false ((h3 i k x y hik hi hx).2 ht)
/-- How a call changes an incident. -/
def Chg (l : List Inc) (was z : Inc) (o : Opr) : Prop := ((z.id = was.id ∧ z.run = was.run) ∧ z.since = o.t ∧ was.since ≤ o.t ∧ o.t ≤ 20000000) ∧
  ((o.kind = 1 ∧ z.st = was.st ∧ z.team = was.team ∧ z.tri = o.n ∧ 1 ≤ o.n ∧ o.n ≤ 4) ∨
   (o.kind ≠ 1 ∧ was.st = 1 ∧ z.st = 2 ∧ z.tri = was.tri ∧ z.team = o.n ∧ (1 ≤ o.n ∧ o.n ≤ 9999) ∧ ∀ y ∈ l, y.team ≠ o.n) ∨
   (o.kind ≠ 1 ∧ z.tri = was.tri ∧ ((was.st = 2 ∧ z.st = 3 ∧ z.team = was.team) ∨ (was.st = 3 ∧ z.st = 4 ∧ z.team = was.team ∧ was.tri ≠ 0) ∨ (was.st = 4 ∧ z.st = 5 ∧ z.team = 0))))
theorem change_ok {g : Inc → Inc × Int} {l x : List Inc} {id t : Int} (h : changeF g l id t = (x, 0)) : ∃ (k : Nat) (was y : Inc), l[k]? = some was ∧ was.id = id ∧ g was = (y, 0) ∧ x = l.set k { y with since := t } ∧ was.since ≤ t ∧ t ≤ 20000000 := by
  rcases ix_cases (idB id) l with ⟨h1, _⟩ | ⟨k, was, h1, h2, h3, _⟩
  · rw [change_no h1] at h
    have := congrArg Prod.snd h; simp at this
  · rw [change_at h1] at h
    by_cases hl : t < was.since ∨ 20000000 < t
    · rw [chg_late h2 hl] at h
      have := congrArg Prod.snd h; simp at this
    · obtain ⟨⟨y, e⟩, hg⟩ : ∃ r, g was = r := ⟨_, rfl⟩
      by_cases he : e = 0
      · subst he
        rw [chg_ok h2 hl hg] at h
        exact ⟨k, was, y, h2, of_decide_eq_true h3, hg, (congrArg Prod.fst h).symm, by omega, by omega⟩
      · rw [chg_err h2 hl hg he] at h
        have := congrArg Prod.snd h
        exact absurd this he
theorem act_ok {l x : List Inc} {o : Opr} (h : actF l o = (x, 0)) : (o.kind = 0 ∧ x = l ++ [⟨o.id, o.n, 0, 1, 0, o.t⟩] ∧ rightI x = 0) ∨ (o.kind ≠ 0 ∧ ∃ (k : Nat) (was z : Inc), l[k]? = some was ∧ was.id = o.id ∧ x = l.set k z ∧ Chg l was z o) := by
  unfold actF at h
  split at h
  · rename_i hk
    unfold reportF at h
    split at h
    · rename_i hr
      have := congrArg Prod.snd h
      exact absurd this hr
    · rename_i hr
      have := congrArg Prod.fst h
      dsimp only at this
      exact .inl ⟨hk, this.symm, by rw [← this]; exact Decidable.not_not.1 hr⟩
  · rename_i hk
    refine .inr ⟨hk, ?_⟩
    split at h
    · rename_i hk1
      obtain ⟨k, was, y, h1, h2, h3, h4, h5, h6⟩ := change_ok h
      refine ⟨k, was, _, h1, h2, h4, ?_⟩
      unfold judgeF at h3
      split at h3
      · have := congrArg Prod.snd h3; simp at this
      split at h3
      · have := congrArg Prod.snd h3; simp at this
      have hy := (congrArg Prod.fst h3).symm
      dsimp only at hy
      subst hy
      exact ⟨⟨⟨rfl, rfl⟩, rfl, h5, h6⟩, .inl ⟨hk1, rfl, rfl, rfl, by omega, by omega⟩⟩
    · rename_i hk1
      split at h
      · obtain ⟨k, was, y, h1, h2, h3, h4, h5, h6⟩ := change_ok h
        refine ⟨k, was, _, h1, h2, h4, ?_⟩
        unfold sendF at h3
        split at h3
        · have := congrArg Prod.snd h3; simp at this
        split at h3
        · have := congrArg Prod.snd h3; simp at this
        split at h3
        · have := congrArg Prod.snd h3; simp at this
        rename_i q1 q2 q3
        have hy := (congrArg Prod.fst h3).symm
        dsimp only at hy
        subst hy
        refine ⟨⟨⟨rfl, rfl⟩, rfl, h5, h6⟩, .inr (.inl ⟨hk1, by omega, rfl, rfl, rfl, by omega, fun y hy e => q3 (List.any_eq_true.2 ⟨y, hy, decide_eq_true e⟩)⟩)⟩
      · obtain ⟨k, was, y, h1, h2, h3, h4, h5, h6⟩ := change_ok h
        refine ⟨k, was, _, h1, h2, h4, ?_⟩
        unfold moveF at h3
        split at h3
        · rename_i q
          have hy := (congrArg Prod.fst h3).symm
          dsimp only at hy
          subst hy
          exact ⟨⟨⟨rfl, rfl⟩, rfl, h5, h6⟩, .inr (.inr ⟨hk1, rfl, .inl ⟨q, rfl, rfl⟩⟩)⟩
        split at h3
        · split at h3
          · have := congrArg Prod.snd h3; simp at this
          rename_i q0 q q2
          have hy := (congrArg Prod.fst h3).symm
          dsimp only at hy
          subst hy
          exact ⟨⟨⟨rfl, rfl⟩, rfl, h5, h6⟩, .inr (.inr ⟨hk1, rfl, .inr (.inl ⟨q, rfl, rfl, q2⟩)⟩)⟩
        split at h3
        · rename_i q0 q1 q
          have hy := (congrArg Prod.fst h3).symm
          dsimp only at hy
          subst hy
          exact ⟨⟨⟨rfl, rfl⟩, rfl, h5, h6⟩, .inr (.inr ⟨hk1, rfl, .inr (.inr ⟨q, rfl, rfl⟩)⟩)⟩
        · have := congrArg Prod.snd h3; simp at this
theorem chg_fit {l : List Inc} {was z : Inc} {o : Opr} (h : Chg l was z o) (hi : incP was) (hf : was.team = 0 ↔ freeP was) : (incP z ∧ (z.team = 0 ↔ freeP z)) ∧ (z.team = was.team ∨ z.team = 0 ∨ ∀ y ∈ l, y.team ≠ z.team) := by
  obtain ⟨⟨⟨a1, a2⟩, a3, a4, a5⟩, h⟩ := h
  unfold incP freeP at *
  rcases h with ⟨_, b1, b2, b3, b4, b5⟩ | ⟨_, b1, b2, b3, b4, b5, b6⟩ | ⟨_, b0, ⟨b1, b2, b3⟩ | ⟨b1, b2, b3, b4⟩ | ⟨b1, b2, b3⟩⟩
  · exact ⟨⟨by omega, by omega⟩, .inl b2⟩
  · exact ⟨⟨by omega, by omega⟩, .inr (.inr (by rw [b4]; exact b6))⟩
  · exact ⟨⟨by omega, by omega⟩, .inl b3⟩
  · exact ⟨⟨by omega, by omega⟩, .inl b3⟩
  · exact ⟨⟨by omega, by omega⟩, .inr (.inl b3)⟩
theorem set_right {l : List Inc} {k : Nat} {was z : Inc} (h : rightI l = 0) (hk : l[k]? = some was) (hid : z.id = was.id) (hz : incP z ∧ (z.team = 0 ↔ freeP z)) (ht : z.team = was.team ∨ z.team = 0 ∨ ∀ y ∈ l, y.team ≠ z.team) : rightI (l.set k z) = 0 := by
  rw [right_iff] at h ⊢
  obtain ⟨h1, h2, h3⟩ := h
  have hkl := (List.getElem?_eq_some_iff.1 hk).1
  have hget : ∀ (i : Nat) (y : Inc), (l.set k z)[i]? = some y → (i = k ∧ y = z) ∨ (i ≠ k ∧ l[i]? = some y) := by
    intro i y hy
    by_cases e : k = i
    · subst e
      rw [List.getElem?_set_self hkl] at hy
      cases hy; exact .inl ⟨rfl, rfl⟩
    · rw [List.getElem?_set_ne e] at hy
      exact .inr ⟨fun q => e q.symm, hy⟩
  refine ⟨by rw [List.length_set]; exact h1, fun i x hx => ?_, fun i j x y hij hy hx => ?_⟩
  · rcases hget i x hx with ⟨_, rfl⟩ | ⟨_, hx⟩
    · exact hz
    · exact h2 i x hx
  · rcases hget i y hy with ⟨rfl, rfl⟩ | ⟨hi, hy2⟩ <;> rcases hget j x hx with ⟨rfl, rfl⟩ | ⟨hj, hx2⟩
    · omega
    · have := h3 i j x was hij hk hx2
      refine ⟨by rw [hid]; exact this.1, fun hne e => ?_⟩
      rcases ht with ht | ht | ht
      · exact this.2 hne (by rw [← ht]; exact e)
      · rw [ht] at e; exact hne e.symm
      · exact ht x (List.mem_of_getElem? hx2) e.symm
    · have := h3 i j was y hij hy2 hk
      refine ⟨by rw [hid]; exact this.1, fun hne e => ?_⟩
      rcases ht with ht | ht | ht
      · exact this.2 (by rw [← ht]; exact hne) (by rw [← ht]; exact e)
      · exact hne ht
      · exact ht y (List.mem_of_getElem? hy2) e
    · exact h3 i j x y hij hy2 hx2
/-- Calls keep incidents right. -/
theorem act_right {l x : List Inc} {o : Opr} (hl : rightI l = 0) (h : actF l o = (x, 0)) : rightI x = 0 := by
  rcases act_ok h with ⟨_, _, hr⟩ | ⟨_, k, was, z, h1, h2, rfl, hc⟩
  · exact hr
  · obtain ⟨q1, _, q2, _⟩ := ic_of hl h1
    obtain ⟨f1, f2⟩ := chg_fit hc q1 q2
    exact set_right hl h1 hc.1.1.1 f1 f2

end Go.Proofs.Ytoeichkblclfaaa
