/- Times and hours: plain definitions and facts. No program in sight. -/
import Derived.Test.YtbglmocgijlomaaT5
namespace Go.Proofs.Ytbglmocgijlomaa
open Go.RowKit

def isT (t : Int) : Prop := 0 ≤ t ∧ t ≤ 20000000
instance (t : Int) : Decidable (isT t) := by unfold isT; infer_instance
def dayF (t : Int) : Int := if isT t then t.tdiv 86400 else -1
def secF (t : Int) : Int := if isT t then t.tmod 86400 else -1
def wdF (t : Int) : Int := if isT t then (t.tdiv 86400).tmod 7 else -1
structure Hours where
  days : Int
  frm : Int
  to : Int
def okH (h : Hours) : Prop := 1 ≤ h.days ∧ h.days ≤ 127 ∧ 0 ≤ h.frm ∧ h.frm < h.to ∧ h.to ≤ 86400
instance (h : Hours) : Decidable (okH h) := by unfold okH; infer_instance
def rightF (l : List Hours) : Bool := decide (l.length ≤ 16 ∧ ∀ h ∈ l, okH h)
/-- The bit w of d, as the programs compute it. -/
def bitF (d w : Int) : Int := IntKind.wrap .i64 ((BitVec.ofInt 64 (d.fdiv (2 ^ Nat.min w.toNat 64)) &&& BitVec.ofInt 64 1).toNat)
def onF (d w : Int) : Prop := bitF d w = 1
instance (d w : Int) : Decidable (onF d w) := by unfold onF; infer_instance
/-- An element of the hours is open at a time. -/
def open1 (h : Hours) (t : Int) : Prop := onF h.days ((t / 86400) % 7) ∧ h.frm ≤ t % 86400 ∧ t % 86400 < h.to
instance (h : Hours) (t : Int) : Decidable (open1 h t) := by unfold open1; infer_instance
def inP (l : List Hours) (t : Int) : Prop := isT t ∧ ∃ h ∈ l, open1 h t
instance (l : List Hours) (t : Int) : Decidable (inP l t) := by unfold inP; infer_instance
theorem day_eq {t : Int} (h : isT t) : dayF t = t / 86400 := by
  rw [dayF, if_pos h, Int.tdiv_eq_ediv_of_nonneg h.1]
theorem sec_eq {t : Int} (h : isT t) : secF t = t % 86400 := by
  rw [secF, if_pos h, Int.tmod_eq_emod_of_nonneg h.1]
theorem wd_eq {t : Int} (h : isT t) : wdF t = (t / 86400) % 7 := by
  have h1 := h.1
  rw [wdF, if_pos h, Int.tdiv_eq_ediv_of_nonneg h.1, Int.tmod_eq_emod_of_nonneg (by omega)]

theorem all_step {α : Type} {p : α → Prop} {l : List α} {k : Nat} {x : α} (hx : l[k]? = some x) (h : ∀ y ∈ l.take k, p y) (h1 : p x) : ∀ y ∈ l.take (k + 1), p y := by
  rw [take_snoc _ _ _ hx]
  intro y hy
  rcases List.mem_append.1 hy with hy | hy
  · exact h y hy
  · simp at hy; subst hy; exact h1
theorem all_end {α : Type} {p : α → Prop} {l : List α} {k : Nat} (h : ∀ y ∈ l.take k, p y) (hk : ¬ k < l.length) : ∀ y ∈ l, p y := by rwa [take_end hk] at h
theorem right_bad {l : List Hours} {k : Nat} {x : Hours} (hx : l[k]? = some x) (h : ¬ okH x) : rightF l = false := decide_eq_false fun hc => h (hc.2 x (List.mem_of_getElem? hx))
theorem in_yes {l : List Hours} {k : Nat} {x : Hours} {t : Int} (ht : isT t) (hx : l[k]? = some x) (h : open1 x t) : inP l t := ⟨ht, x, List.mem_of_getElem? hx, h⟩
theorem in_no {l : List Hours} {t : Int} (h : ∀ y ∈ l, ¬ open1 y t) : ¬ inP l t := fun ⟨_, x, hx, hc⟩ => h x hx hc
end Go.Proofs.Ytbglmocgijlomaa
