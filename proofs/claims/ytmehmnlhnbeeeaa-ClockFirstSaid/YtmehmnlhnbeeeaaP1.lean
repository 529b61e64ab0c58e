/- The clock: plain definitions and facts of times and hours. No program in sight. -/
import Derived.Test.YtmehmnlhnbeeeaaE3
namespace Go.Proofs.Ytmehmnlhnbeeeaa

def isT (t : Int) : Prop := 0 ≤ t ∧ t ≤ 20000000
instance (t : Int) : Decidable (isT t) := by unfold isT; infer_instance
def dayF (t : Int) : Int := if isT t then t.tdiv 86400 else -1
def secF (t : Int) : Int := if isT t then t.tmod 86400 else -1
def wdF (t : Int) : Int := if isT t then (t.tdiv 86400).tmod 7 else -1
structure Hours where
  days : Int
  frm : Int
  to : Int
def okH (h : Hours) : Prop := 1 ≤ h.days ∧ h.days ≤ 127 ∧ 0 ≤ h.frm ∧ h.frm < h.to ∧ h.to ≤ 86400
instance (h : Hours) : Decidable (okH h) := by unfold okH; infer_instance
def rightF (l : List Hours) : Bool := decide (l.length ≤ 16 ∧ ∀ h ∈ l, okH h)
/-- The bit w of d, as the programs compute it. -/
def bitF (d w : Int) : Int := IntKind.wrap .i64 ((BitVec.ofInt 64 (d.fdiv (2 ^ Nat.min w.toNat 64)) &&& BitVec.ofInt 64 1).toNat)
def onF (d w : Int) : Prop := bitF d w = 1
instance (d w : Int) : Decidable (onF d w) := by unfold onF; infer_instance
/-- An element of the hours is open at a time. -/
def open1 (h : Hours) (t : Int) : Prop := onF h.days ((t / 86400) % 7) ∧ h.frm ≤ t % 86400 ∧ t % 86400 < h.to
instance (h : Hours) (t : Int) : Decidable (open1 h t) := by unfold open1; infer_instance
def inP (l : List Hours) (t : Int) : Prop := isT t ∧ ∃ h ∈ l, open1 h t
instance (l : List Hours) (t : Int) : Decidable (inP l t) := by unfold inP; infer_instance
theorem day_eq {t : Int} (h : isT t) : dayF t = t / 86400 := by
  rw [dayF, if_pos h, Int.tdiv_eq_ediv_of_nonneg h.1]
theorem sec_eq {t : Int} (h : isT t) : secF t = t % 86400 := by
  rw [secF, if_pos h, Int.tmod_eq_emod_of_nonneg h.1]
theorem wd_eq {t : Int} (h : isT t) : wdF t = (t / 86400) % 7 := by
  have h1 := h.1
  rw [wdF, if_pos h, Int.tdiv_eq_ediv_of_nonneg h.1, Int.tmod_eq_emod_of_nonneg (by omega)]

/-- The least number below N of a set, and whether there is one. -/
def leastN (N : Nat) (p : Int → Bool) : Int × Bool := match (List.range N).find? fun n : Nat => p (n : Int) with
  | some n => ((n : Int), true)
  | none => (0, false)
theorem leastN_some {N : Nat} {p : Int → Bool} {n : Nat} (h0 : n < N) (h1 : p n = true) (h2 : ∀ v : Nat, v < n → p v = false) : leastN N p = ((n : Int), true) := by
  have hf : (List.range N).find? (fun n : Nat => p (n : Int)) = some n := by
    rw [List.find?_range_eq_some]
    refine ⟨h1, by simp; omega, fun j hj => ?_⟩
    simp [h2 j hj]
  unfold leastN; rw [hf]
theorem leastN_none {N : Nat} {p : Int → Bool} (h : ∀ v : Nat, v < N → p v = false) : leastN N p = (0, false) := by
  have hf : (List.range N).find? (fun n : Nat => p (n : Int)) = none := by
    rw [List.find?_range_eq_none]
    intro i hi
    simp [h i hi]
  unfold leastN; rw [hf]
def leastB (p : Int → Bool) : Int × Bool := leastN 20000001 p
theorem leastB_some {p : Int → Bool} {u : Int} (h0 : isT u) (h1 : p u = true) (h2 : ∀ v, isT v → v < u → p v = false) : leastB p = (u, true) := by
  obtain ⟨n, rfl⟩ : ∃ n : Nat, u = n := ⟨u.toNat, by have := h0.1; omega⟩
  have := h0.2
  exact leastN_some (by omega) h1 fun v hv => h2 v ⟨by omega, by omega⟩ (by omega)
theorem leastB_none {p : Int → Bool} (h : ∀ v, isT v → p v = false) : leastB p = (0, false) :=
  leastN_none fun v hv => h v ⟨by omega, by omega⟩
def nextR (l : List Hours) (t : Int) : Int × Bool := leastB fun u => decide (t ≤ u ∧ inP l u)
/-- A time is open on a day, at t or later. -/
def onDay (l : List Hours) (d t v : Int) : Prop := t ≤ v ∧ v / 86400 = d ∧ inP l v
def openR (l : List Hours) (d t : Int) : Int × Bool := leastB fun u => decide (t ≤ u ∧ u / 86400 = d ∧ inP l u)
/-- What a search of the hours has found. -/
def Found (l : List Hours) (d t u : Int) (ok : Bool) : Prop := match ok with
  | true => onDay l d t u ∧ ∀ v, onDay l d t v → u ≤ v
  | false => u = 0 ∧ ∀ v, ¬ onDay l d t v
theorem Found.eq {l : List Hours} {d t u : Int} {ok : Bool} (h : Found l d t u ok) : openR l d t = (u, ok) := by
  cases ok with
  | true =>
    obtain ⟨⟨h1, h2, h3⟩, h4⟩ := h
    refine leastB_some h3.1 (decide_eq_true ⟨h1, h2, h3⟩) fun v _ hv => decide_eq_false fun hc => ?_
    have := h4 v hc; omega
  | false =>
    obtain ⟨rfl, h4⟩ := h
    exact leastB_none fun v _ => decide_eq_false fun hc => h4 v hc
theorem Found.start (d t : Int) : Found [] d t 0 false := ⟨rfl, fun v h => by obtain ⟨_, _, _, h, hm, _⟩ := h; simp at hm⟩
theorem onDay_snoc {l : List Hours} {h : Hours} {d t v : Int} : onDay (l ++ [h]) d t v ↔ onDay l d t v ∨ (t ≤ v ∧ v / 86400 = d ∧ isT v ∧ open1 h v) := by
  unfold onDay inP
  constructor
  · rintro ⟨h1, h2, h3, x, hx, h4⟩
    rcases List.mem_append.1 hx with hx | hx
    · exact .inl ⟨h1, h2, h3, x, hx, h4⟩
    · simp at hx; subst hx; exact .inr ⟨h1, h2, h3, h4⟩
  · rintro (⟨h1, h2, h3, x, hx, h4⟩ | ⟨h1, h2, h3, h4⟩)
    · exact ⟨h1, h2, h3, x, by simp [hx], h4⟩
    · exact ⟨h1, h2, h3, h, by simp, h4⟩
/-- An element without such a time changes nothing. -/
theorem Found.skip {l : List Hours} {h : Hours} {d t u : Int} {ok : Bool} (hf : Found l d t u ok) (hn : ∀ v, t ≤ v → v / 86400 = d → isT v → ¬ open1 h v) : Found (l ++ [h]) d t u ok := by
  have e : ∀ v, onDay (l ++ [h]) d t v ↔ onDay l d t v := fun v => by
    rw [onDay_snoc]
    exact ⟨fun h => h.elim id fun ⟨a, b, c, e⟩ => absurd e (hn v a b c), .inl⟩
  cases ok with
  | true => exact ⟨(e u).2 hf.1, fun v hv => hf.2 v ((e v).1 hv)⟩
  | false => exact ⟨hf.1, fun v hv => hf.2 v ((e v).1 hv)⟩
/-- An element whose least time is u. -/
theorem Found.better {l : List Hours} {h : Hours} {d t u w : Int} {ok : Bool} (hf : Found l d t w ok) (h1 : t ≤ u ∧ u / 86400 = d ∧ isT u ∧ open1 h u) (h2 : ∀ v, t ≤ v → v / 86400 = d → isT v → open1 h v → u ≤ v) (hb : ok = false ∨ u < w) : Found (l ++ [h]) d t u true := by
  refine ⟨onDay_snoc.2 (.inr h1), fun v hv => ?_⟩
  rcases onDay_snoc.1 hv with hv | ⟨a, b, c, e⟩
  · cases ok with
    | true => have := hf.2 v hv; rcases hb with hb | hb; cases hb; omega
    | false => exact absurd hv (hf.2 v)
  · exact h2 v a b c e
theorem Found.worse {l : List Hours} {h : Hours} {d t u w : Int} (hf : Found l d t w true) (h2 : ∀ v, t ≤ v → v / 86400 = d → isT v → open1 h v → u ≤ v) (hb : w ≤ u) : Found (l ++ [h]) d t w true := by
  refine ⟨onDay_snoc.2 (.inl hf.1), fun v hv => ?_⟩
  rcases onDay_snoc.1 hv with hv | ⟨a, b, c, e⟩
  · exact hf.2 v hv
  · have := h2 v a b c e; omega

/-! Next -/
theorem next_some {l : List Hours} {t u : Int} (h1 : t ≤ u ∧ inP l u) (h2 : ∀ v, t ≤ v → v < u → ¬ inP l v) : nextR l t = (u, true) :=
  leastB_some h1.2.1 (decide_eq_true h1) fun v _ hv => decide_eq_false fun hc => h2 v hc.1 hv hc.2
theorem next_none {l : List Hours} {t : Int} (h : ∀ v, t ≤ v → ¬ inP l v) : nextR l t = (0, false) :=
  leastB_none fun v _ => decide_eq_false fun hc => h v hc.1 hc.2
theorem next_max {l : List Hours} {t : Int} : nextR l (max t 0) = nextR l t := by
  unfold nextR
  congr 1
  funext u
  congr 1
  apply propext
  constructor
  · rintro ⟨h1, h2⟩; exact ⟨by omega, h2⟩
  · rintro ⟨h1, h2⟩; have := h2.1.1; exact ⟨by omega, h2⟩
/-- No time of the days before d is open. -/
def Before (l : List Hours) (t d : Int) : Prop := ∀ v, t ≤ v → v / 86400 < d → ¬ inP l v
theorem Before.hit {l : List Hours} {t d u : Int} (hb : Before l t d) (hf : Found l d t u true) : nextR l t = (u, true) := by
  refine next_some ⟨hf.1.1, hf.1.2.2⟩ fun v h1 h2 hc => ?_
  have hd := hf.1.2.1
  by_cases e : v / 86400 < d
  · exact hb v h1 e hc
  · have := hf.2 v ⟨h1, by omega, hc⟩; omega
theorem Before.miss {l : List Hours} {t d u : Int} (hb : Before l t d) (hf : Found l d t u false) : Before l t (d + 1) := fun v h1 h2 hc => by
  by_cases e : v / 86400 < d
  · exact hb v h1 e hc
  · exact hf.2 v ⟨h1, by omega, hc⟩
theorem Before.all {l : List Hours} {t : Int} (hb : Before l t 232) : nextR l t = (0, false) := next_none fun v h1 hc => hb v h1 (by have := hc.1.2; omega) hc
/-- Hours repeat after a week. -/
theorem inP_week {l : List Hours} {t : Int} (h0 : 0 ≤ t) (h : inP l (t + 604800)) : inP l t := by
  obtain ⟨h1, x, hx, h2, h3, h4⟩ := h
  have e1 : (t + 604800) % 86400 = t % 86400 := by omega
  have e2 : (t + 604800) / 86400 % 7 = t / 86400 % 7 := by omega
  rw [e1] at h3 h4
  rw [e2] at h2
  exact ⟨⟨h0, by have := h1.2; omega⟩, x, hx, h2, h3, h4⟩
theorem inP_week' {l : List Hours} {t : Int} (h0 : isT (t + 604800)) (h : inP l t) : inP l (t + 604800) := by
  obtain ⟨h1, x, hx, h2, h3, h4⟩ := h
  have e1 : (t + 604800) % 86400 = t % 86400 := by omega
  have e2 : (t + 604800) / 86400 % 7 = t / 86400 % 7 := by omega
  exact ⟨h0, x, hx, by rw [e2]; exact h2, by rw [e1]; exact h3, by rw [e1]; exact h4⟩
theorem week_down {l : List Hours} {t : Int} (h0 : 0 ≤ t) : ∀ (n : Nat) (v : Int), v / 86400 ≤ t / 86400 + 7 + n → t ≤ v → inP l v → ∃ u, t ≤ u ∧ u / 86400 < t / 86400 + 8 ∧ inP l u
  | 0, v, h1, h2, h3 => ⟨v, h2, by omega, h3⟩
  | n + 1, v, h1, h2, h3 => by
    by_cases e : v / 86400 ≤ t / 86400 + 7 + n
    · exact week_down h0 n v e h2 h3
    · exact week_down h0 n (v - 604800) (by omega) (by omega) (inP_week (by omega) (by rw [show v - 604800 + 604800 = v by omega]; exact h3))
theorem Before.week {l : List Hours} {t : Int} (h0 : 0 ≤ t) (hb : Before l t (t / 86400 + 8)) : nextR l t = (0, false) := next_none fun v h1 hc => by
  obtain ⟨u, a, b, c⟩ := week_down h0 300 v (by have := hc.1.2; omega) h1 hc
  exact hb u a b c
/-! loops over a list -/
theorem all_step {α : Type} {p : α → Prop} {l : List α} {k : Nat} {x : α} (hx : l[k]? = some x) (h : ∀ y ∈ l.take k, p y) (h1 : p x) : ∀ y ∈ l.take (k + 1), p y := by
  rw [take_snoc _ _ _ hx]
  intro y hy
  rcases List.mem_append.1 hy with hy | hy
  · exact h y hy
  · simp at hy; subst hy; exact h1
theorem all_end {α : Type} {p : α → Prop} {l : List α} {k : Nat} (h : ∀ y ∈ l.take k, p y) (hk : ¬ k < l.length) : ∀ y ∈ l, p y := by rwa [take_end hk] at h
theorem right_bad {l : List Hours} {k : Nat} {x : Hours} (hx : l[k]? = some x) (h : ¬ okH x) : rightF l = false := decide_eq_false fun hc => h (hc.2 x (List.mem_of_getElem? hx))
theorem in_yes {l : List Hours} {k : Nat} {x : Hours} {t : Int} (ht : isT t) (hx : l[k]? = some x) (h : open1 x t) : inP l t := ⟨ht, x, List.mem_of_getElem? hx, h⟩
theorem in_no {l : List Hours} {t : Int} (h : ∀ y ∈ l, ¬ open1 y t) : ¬ inP l t := fun ⟨_, x, hx, hc⟩ => h x hx hc
/-- The least time of an element on a day. -/
def candF (h : Hours) (d t : Int) : Int := max (d * 86400 + max h.frm 0) t
theorem cand_le {h : Hours} {d t v : Int} (h1 : t ≤ v) (h2 : v / 86400 = d) (h4 : open1 h v) : candF h d t ≤ v := by
  unfold candF
  have := h4.2.1
  omega
theorem cand_in {h : Hours} {d t : Int} (ht : t / 86400 ≤ d) (ho : onF h.days (d % 7)) (h1 : candF h d t < d * 86400 + min h.to 86400) (h2 : isT (candF h d t)) : t ≤ candF h d t ∧ candF h d t / 86400 = d ∧ isT (candF h d t) ∧ open1 h (candF h d t) := by
  have e1 : candF h d t / 86400 = d := by unfold candF at *; omega
  have e2 : candF h d t % 86400 = candF h d t - d * 86400 := by omega
  refine ⟨by unfold candF; omega, e1, h2, ?_⟩
  unfold open1
  rw [e1, e2]
  refine ⟨ho, ?_, by omega⟩
  unfold candF; omega
theorem cand_none {h : Hours} {d t v : Int} (h1 : t ≤ v) (h2 : v / 86400 = d) (h3 : isT v) (h4 : open1 h v) : onF h.days (d % 7) ∧ candF h d t < d * 86400 + min h.to 86400 ∧ isT (candF h d t) ∧ max h.frm 0 < min h.to 86400 := by
  have hle := cand_le h1 h2 h4
  obtain ⟨a, b, c⟩ := h4
  rw [h2] at a
  have g1 := h3.1
  have g2 := h3.2
  refine ⟨a, by omega, ⟨by unfold candF; omega, by omega⟩, by omega⟩
end Go.Proofs.Ytmehmnlhnbeeeaa
