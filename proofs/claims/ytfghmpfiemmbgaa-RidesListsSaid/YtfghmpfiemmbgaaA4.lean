/- The abstract walk is sound: operations that change nothing of what the call owns. No program in sight. -/
import Derived.Test.YtfghmpfiemmbgaaA3
namespace Go.Proofs.Ytfghmpfiemmbgaa
open Go.RowKit

/-! ### one value for every order -/
theorem norm_yields {v : SV} {K : SV → Prop} (h : norm v K) : ∃ u, norm v (· = u) ∧ K u := by
  unfold norm at *
  split at h
  · rename_i b
    cases b
    · exact ⟨_, ⟨fun h => (by cases h), fun _ => rfl⟩, h.2 rfl⟩
    · exact ⟨_, ⟨fun _ => rfl, fun h => (by cases h)⟩, h.1 rfl⟩
  · exact ⟨v, rfl, h⟩
theorem norm_mono {v : SV} {K K' : SV → Prop} (hk : ∀ u, K u → K' u) (h : norm v K) : norm v K' := by
  unfold norm at *
  split at h
  · exact ⟨fun e => hk _ (h.1 e), fun e => hk _ (h.2 e)⟩
  · exact hk _ h
theorem spl_yields {p : Prop} {K : SV → Prop} (h : spl p K) : ∃ u, spl p (· = u) ∧ K u := by
  by_cases hp : p
  · exact ⟨_, ⟨fun _ => rfl, fun h => absurd hp h⟩, h.1 hp⟩
  · exact ⟨_, ⟨fun h => absurd h hp, fun _ => rfl⟩, h.2 hp⟩
theorem fromCells_yields {ag : Bool} {cs : List SV} {K : SV → Prop} (h : fromCells ag cs K) : ∃ u, fromCells ag cs (· = u) ∧ K u := by
  unfold fromCells at *
  cases ag
  · cases cs with
    | nil => exact h.elim
    | cons c r => exact norm_yields h
  · exact ⟨_, rfl, h⟩
theorem binV_yields {op : BinOp} {kd : IntKind} {wr : Bool} {a b : Int} {K : SV → Prop} (h : binV op kd wr a b K) : ∃ u, binV op kd wr a b (· = u) ∧ K u := by
  unfold binV at *
  cases op <;> cases wr <;> first | exact h.elim | exact ⟨_, rfl, h⟩ | exact ⟨_, ⟨h.1, rfl⟩, h.2⟩
theorem cmpV_yields {op : BinOp} {a b : Int} {K : SV → Prop} (h : cmpV op a b K) : ∃ u, cmpV op a b (· = u) ∧ K u := by
  unfold cmpV at *
  cases op <;> first | exact h.elim | exact spl_yields h
theorem fromCells_mono {ag : Bool} {cs : List SV} {K K' : SV → Prop} (hk : ∀ u, K u → K' u) (h : fromCells ag cs K) : fromCells ag cs K' := by
  unfold fromCells norm at *
  cases ag
  · cases cs with
    | nil => exact h.elim
    | cons c r =>
      dsimp only at h ⊢
      split at h
      · exact ⟨fun e => hk _ (h.1 e), fun e => hk _ (h.2 e)⟩
      · exact hk _ h
  · exact hk _ h

set_option maxHeartbeats 1000000 in
theorem pop_yields {P : Program} {op : IOp} {H : List (Nat × Ob)} {xs : List SV} {K : SV → Prop} (h : pop P op H xs K) : ∃ u, pop P op H xs (· = u) ∧ K u := by
  unfold pop at *
  cases op <;> dsimp only at h ⊢
  case mov => split at h <;> first | exact ⟨_, rfl, h⟩ | exact h.elim
  case pick => split at h <;> first | exact ⟨_, rfl, h⟩ | exact h.elim
  case build => split at h <;> first | exact ⟨_, rfl, h⟩ | exact h.elim
  case buildSl => split at h <;> first | exact ⟨_, rfl, h⟩ | exact h.elim
  case load k ag =>
    split at h
    · split at h
      · obtain ⟨h0, h⟩ := chk_iff.1 h
        obtain ⟨u, h1, h2⟩ := fromCells_yields h
        exact ⟨u, chk_iff.2 ⟨h0, h1⟩, h2⟩
      · exact h.elim
    · obtain ⟨h0, h⟩ := chk_iff.1 h
      obtain ⟨u, h1, h2⟩ := fromCells_yields h
      exact ⟨u, chk_iff.2 ⟨h0, h1⟩, h2⟩
    · split at h
      · rename_i es _
        obtain ⟨ha, hi, hr⟩ := chk_iff.1 h
        obtain ⟨u, h1, h2⟩ := fromCells_yields (hr _ (List.getElem?_eq_getElem hi))
        refine ⟨u, chk_iff.2 ⟨ha, hi, fun r hrr => ?_⟩, h2⟩
        rw [List.getElem?_eq_getElem hi] at hrr
        cases hrr
        exact h1
      · exact h.elim
    · exact h.elim
  case bin =>
    split at h
    · split at h
      · exact binV_yields h
      · exact h.elim
    · exact h.elim
  case cmp =>
    split at h
    · split at h
      · exact cmpV_yields h
      · exact h.elim
    · exact h.elim
  case eqb =>
    split at h
    · split at h <;> exact spl_yields h
    · exact h.elim
  case eqa =>
    split at h
    · split at h
      · split at h <;> exact spl_yields h
      · exact h.elim
    · exact h.elim
  case not => split at h <;> first | exact ⟨_, rfl, h⟩ | exact h.elim
  case neg =>
    split at h
    · split at h <;> first | exact ⟨_, ⟨h.1, rfl⟩, h.2⟩ | exact h.elim
    · exact h.elim
  case conv => split at h <;> first | exact ⟨_, ⟨h.1, rfl⟩, h.2⟩ | exact h.elim
  case fn => exact ⟨_, rfl, h⟩
  case slice =>
    split at h
    · split at h
      · obtain ⟨h0, h1, h2⟩ := chk_iff.1 h
        exact ⟨_, chk_iff.2 ⟨h0, h1, rfl⟩, h2⟩
      · exact h.elim
    · exact h.elim
  case faddr =>
    split at h
    · obtain ⟨h0, h⟩ := chk_iff.1 h
      exact ⟨_, chk_iff.2 ⟨h0, rfl⟩, h⟩
    · split at h <;> first | exact ⟨_, rfl, h⟩ | exact h.elim
    · split at h <;> first | exact ⟨_, rfl, h⟩ | exact h.elim
    · exact h.elim
  case field =>
    split at h
    · obtain ⟨h0, h⟩ := chk_iff.1 h
      obtain ⟨u, h1, h2⟩ := fromCells_yields h
      exact ⟨u, chk_iff.2 ⟨h0, h1⟩, h2⟩
    · exact h.elim
  case idx =>
    split at h
    · rename_i k' es kd i
      obtain ⟨ha, ⟨hb, hc⟩, hr⟩ := chk_iff.1 h
      have hi := List.getElem?_eq_getElem (l := es) (i := i.toNat) (by omega)
      refine ⟨_, chk_iff.2 ⟨ha, ⟨hb, hc⟩, fun r hrr => ?_⟩, hr _ hi⟩
      rw [hi] at hrr
      cases hrr
      rfl
    · split at h
      · obtain ⟨h0, h1, h2⟩ := chk_iff.1 h
        exact ⟨_, chk_iff.2 ⟨h0, h1, rfl⟩, h2⟩
      · exact h.elim
    · exact h.elim
  case extract =>
    split at h
    · split at h
      · exact norm_yields h
      · exact h.elim
    · exact h.elim
  case len =>
    split at h
    · exact ⟨_, rfl, h⟩
    · exact ⟨_, rfl, h⟩
    · split at h <;> first | exact ⟨_, rfl, h⟩ | exact h.elim
    · exact h.elim
  case min => split at h <;> first | exact ⟨_, rfl, h⟩ | exact h.elim
  case max => split at h <;> first | exact ⟨_, rfl, h⟩ | exact h.elim
  case nilchk =>
    split at h
    · exact ⟨_, rfl, h⟩
    · split at h <;> first | exact ⟨_, rfl, h⟩ | exact h.elim
    · split at h <;> first | exact ⟨_, rfl, h⟩ | exact h.elim
    · exact ⟨_, rfl, h⟩
    · exact h.elim
  case call =>
    obtain ⟨S, hS, x, hp, hl, hf, ho, hn⟩ := h
    obtain ⟨u, h1, h2⟩ := norm_yields hn
    exact ⟨u, ⟨S, hS, x, hp, hl, hf, ho, h1⟩, h2⟩
  case callv =>
    split at h
    · obtain ⟨hc, S, hS, x, hp, hl, hf, ho, hn⟩ := h
      obtain ⟨u, h1, h2⟩ := norm_yields hn
      exact ⟨u, ⟨hc, S, hS, x, hp, hl, hf, ho, h1⟩, h2⟩
    · exact h.elim
  all_goals exact h.elim
end Go.Proofs.Ytfghmpfiemmbgaa
