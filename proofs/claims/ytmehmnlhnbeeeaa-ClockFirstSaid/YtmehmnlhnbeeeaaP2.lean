/- The clock: facts for Next. Plain. -/
import Derived.Test.YtmehmnlhnbeeeaaP1
namespace Go.Proofs.Ytmehmnlhnbeeeaa

theorem leastN_cases (N : Nat) (p : Int → Bool) : (∃ n : Nat, n < N ∧ p n = true ∧ (∀ v : Nat, v < n → p v = false) ∧ leastN N p = ((n : Int), true)) ∨ ((∀ v : Nat, v < N → p v = false) ∧ leastN N p = (0, false)) := by
  cases hf : (List.range N).find? (fun n : Nat => p (n : Int)) with
  | none =>
    rw [List.find?_range_eq_none] at hf
    have h : ∀ v : Nat, v < N → p v = false := fun v hv => by simpa using hf v hv
    exact .inr ⟨h, leastN_none h⟩
  | some n =>
    rw [List.find?_range_eq_some] at hf
    obtain ⟨h1, h2, h3⟩ := hf
    have h3' : ∀ v : Nat, v < n → p v = false := fun v hv => by simpa using h3 v hv
    have h2' : n < N := by simpa using h2
    exact .inl ⟨n, h2', h1, h3', leastN_some h2' h1 h3'⟩
theorem found_ex (l : List Hours) (d t : Int) : ∃ u ok, Found l d t u ok := by
  rcases leastN_cases 20000001 (fun u => decide (t ≤ u ∧ u / 86400 = d ∧ inP l u)) with ⟨n, _, h1, h2, _⟩ | ⟨h, _⟩
  · refine ⟨n, true, (decide_eq_true_eq.mp h1 : t ≤ (n : Int) ∧ (n : Int) / 86400 = d ∧ inP l n), fun v hv => ?_⟩
    have hv0 := hv.2.2.1.1
    obtain ⟨m, rfl⟩ : ∃ m : Nat, v = m := ⟨v.toNat, by omega⟩
    by_cases e : m < n
    · exact absurd (show t ≤ (m : Int) ∧ (m : Int) / 86400 = d ∧ inP l m from hv) (decide_eq_false_iff_not.mp (h2 m e))
    · omega
  · refine ⟨0, false, rfl, fun v hv => ?_⟩
    have hv0 := hv.2.2.1.1
    have hv1 := hv.2.2.1.2
    obtain ⟨m, rfl⟩ : ∃ m : Nat, v = m := ⟨v.toNat, by omega⟩
    exact decide_eq_false_iff_not.mp (h m (by omega)) (show t ≤ (m : Int) ∧ (m : Int) / 86400 = d ∧ inP l m from hv)
/-- What the reference tries on a day. -/
def candR (h : Hours) (d t : Int) : Int := max t (d * 86400 + max 0 (min h.frm 86400))
theorem candR_le {h : Hours} {d t v : Int} (h1 : t ≤ v) (h2 : v / 86400 = d) (h4 : open1 h v) : candR h d t ≤ v := by
  unfold candR
  have := h4.2.1
  omega
theorem candR_in {h : Hours} {d t : Int} (h1 : candR h d t < (d + 1) * 86400) (h2 : inP [h] (candR h d t)) : t ≤ candR h d t ∧ candR h d t / 86400 = d ∧ isT (candR h d t) ∧ open1 h (candR h d t) := by
  obtain ⟨a, x, hx, b⟩ := h2
  simp at hx; subst hx
  refine ⟨by unfold candR; omega, ?_, a, b⟩
  unfold candR at *; omega
theorem candR_none {h : Hours} {d t v : Int} (h0 : 0 ≤ t) (h1 : t ≤ v) (h2 : v / 86400 = d) (h3 : isT v) (h4 : open1 h v) : candR h d t < (d + 1) * 86400 ∧ inP [h] (candR h d t) := by
  have hle := candR_le h1 h2 h4
  obtain ⟨a, b, c⟩ := h4
  have g2 := h3.2
  have e1 : candR h d t / 86400 = d := by unfold candR at *; omega
  refine ⟨by omega, ⟨by unfold candR; omega, by omega⟩, h, by simp, ?_⟩
  unfold open1
  rw [e1]
  rw [h2] at a
  have e2 : candR h d t % 86400 = candR h d t - d * 86400 := by omega
  have e3 : v % 86400 = v - d * 86400 := by omega
  rw [e2]
  rw [e3] at b c
  refine ⟨a, ?_, by omega⟩
  unfold candR; omega
theorem before_start {l : List Hours} {t : Int} : Before l t (t / 86400) := fun v h1 h2 => by omega
theorem next_late {l : List Hours} {t : Int} (h : 20000000 < t) : nextR l t = (0, false) := next_none fun v h1 hc => by have := hc.1.2; omega
end Go.Proofs.Ytmehmnlhnbeeeaa
