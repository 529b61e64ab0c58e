/- Assignments at the least cost, plain. No program in sight. -/
import Derived.Test.YtoeichkblclfaaaT1
namespace Go.Proofs.Ytoeichkblclfaaa
open Go.RowKit
/-! sets of columns -/
theorem mask_facts : ∀ S : Fin 256, ∀ k : Fin 8, S.1.testBit k.1 = false → S.1 + 2 ^ k.1 = S.1 ||| 2 ^ k.1 ∧ S.1 + 2 ^ k.1 < 256 := by decide +kernel
theorem mask_or {S k : Nat} (hS : S < 256) (hk : k < 8) (h : S.testBit k = false) : S + 2 ^ k = S ||| 2 ^ k := (mask_facts ⟨S, hS⟩ ⟨k, hk⟩ h).1
theorem mask_bit {S k j : Nat} (hS : S < 256) (hk : k < 8) (h : S.testBit k = false) : (S + 2 ^ k).testBit j = (S.testBit j || decide (k = j)) := by
  rw [mask_or hS hk h, Nat.testBit_or, Nat.testBit_two_pow]
theorem mask_lt {S k c : Nat} (hc : c ≤ 8) (hS : S < 2 ^ c) (hk : k < c) (h : S.testBit k = false) : S + 2 ^ k < 2 ^ c := by
  have h8 : 2 ^ c ≤ 2 ^ 8 := Nat.pow_le_pow_right (by omega) hc
  have e : (2 : Nat) ^ 8 = 256 := rfl
  rw [mask_or (by omega) (by omega) h]
  exact Nat.or_lt_two_pow hS (Nat.pow_lt_pow_right (by omega) hk)
/-- How many columns a set has. -/
def popF (S : Nat) : Nat := if S = 0 then 0 else S % 2 + popF (S / 2)
termination_by S
decreasing_by omega
def popL (S : Nat) : Nat := (List.range 8).countP fun k => S.testBit k
theorem pop_facts : ∀ S : Fin 256, popL S.1 = S.1 % 2 + popL (S.1 / 2) := by decide +kernel
theorem popF_eq : ∀ (n S : Nat), S ≤ n → S < 256 → popF S = popL S
  | 0, S, h, _ => by
    have : S = 0 := by omega
    subst this; unfold popF; rfl
  | n + 1, S, h, h2 => by
    unfold popF
    split
    · rename_i h0; subst h0; rfl
    · rw [popF_eq n (S / 2) (by omega) (by omega)]
      exact (pop_facts ⟨S, h2⟩).symm
theorem pop_add_facts : ∀ S : Fin 256, ∀ k : Fin 8, S.1.testBit k.1 = false → popL (S.1 + 2 ^ k.1) = popL S.1 + 1 := by decide +kernel
theorem pop_add {S k : Nat} (hS : S < 256) (hk : k < 8) (h : S.testBit k = false) : popF (S + 2 ^ k) = popF S + 1 := by
  rw [popF_eq _ S (Nat.le_refl _) hS, popF_eq _ _ (Nat.le_refl _) (mask_facts ⟨S, hS⟩ ⟨k, hk⟩ h).2]
  exact pop_add_facts ⟨S, hS⟩ ⟨k, hk⟩ h
theorem pop_full_facts : ∀ S : Fin 256, ∀ c : Fin 9, S.1 < 2 ^ c.1 → (∀ k : Fin 8, k.1 < c.1 → S.1.testBit k.1 = true) → popL S.1 = c.1 := by decide +kernel
/-- A set that is not full leaves a column. -/
theorem pop_free {S c : Nat} (hc : c ≤ 8) (hS : S < 2 ^ c) (h : popF S < c) : ∃ k, k < c ∧ S.testBit k = false := by
  have h8 : 2 ^ c ≤ 2 ^ 8 := Nat.pow_le_pow_right (by omega) hc
  have e : (2 : Nat) ^ 8 = 256 := rfl
  refine Classical.byContradiction fun hn => ?_
  have hp := pop_full_facts ⟨S, by omega⟩ ⟨c, by omega⟩ hS fun k hk => by
    cases hb : S.testBit k.1 with
    | true => rfl
    | false => exact absurd ⟨k.1, hk, hb⟩ hn
  rw [popF_eq _ S (Nat.le_refl _) (by omega)] at h
  simp only at hp
  omega

/-! the least cost -/
def stepM (acc n : Int) : Int := if acc < 0 ∨ n < acc then n else acc
/-- The least of v over the first n columns outside S, -1 if there are none. -/
def minTo (v : Nat → Int) (S : Nat) : Nat → Int
  | 0 => -1
  | k + 1 => if S.testBit k = true then minTo v S k else stepM (minTo v S k) (v k)
/-- What the rows cost at least, if the columns of S are taken. -/
def minF (c : Nat) : List (List Int) → Nat → Int
  | [], _ => 0
  | row :: rest, S => minTo (fun k => row.getD k 0 + minF c rest (S + 2 ^ k)) S c
/-- The first column outside S, below n, of which v is m. -/
def firstK (v : Nat → Int) (S : Nat) (m : Int) (n : Nat) : Option Nat := (List.range n).find? fun k => !S.testBit k && decide (v k = m)
def greedy (c : Nat) : List (List Int) → Nat → List Int
  | [], _ => []
  | row :: rest, S => match firstK (fun k => row.getD k 0 + minF c rest (S + 2 ^ k)) S (minF c (row :: rest) S) c with
    | some k => (k : Int) :: greedy c rest (S + 2 ^ k)
    | none => []
def OkM (c : Nat) (m : List (List Int)) : Prop := ∀ row ∈ m, row.length = c ∧ ∀ x ∈ row, 0 ≤ x ∧ x ≤ 1000000
theorem okM_tail {c : Nat} {row : List Int} {rest : List (List Int)} (h : OkM c (row :: rest)) : OkM c rest := fun r hr => h r (by simp [hr])
theorem okM_get {c : Nat} {row : List Int} {rest : List (List Int)} (h : OkM c (row :: rest)) {k : Nat} (hk : k < c) : 0 ≤ row.getD k 0 ∧ row.getD k 0 ≤ 1000000 := by
  obtain ⟨h1, h2⟩ := h row (by simp)
  rw [List.getD_eq_getElem?_getD, List.getElem?_eq_getElem (by omega)]
  exact h2 _ (List.getElem_mem _)
theorem minTo_none {v : Nat → Int} {S : Nat} : ∀ {n : Nat}, (∀ k, k < n → S.testBit k = true) → minTo v S n = -1
  | 0, _ => rfl
  | n + 1, h => by rw [minTo, if_pos (h n (by omega))]; exact minTo_none fun k hk => h k (by omega)
/-- What is known of the least over the first n columns. -/
theorem minTo_spec {v : Nat → Int} {S : Nat} : ∀ {n : Nat}, (∀ k, k < n → S.testBit k = false → 0 ≤ v k) → (minTo v S n = -1 ∧ ∀ k, k < n → S.testBit k = true) ∨ (0 ≤ minTo v S n ∧ (∀ k, k < n → S.testBit k = false → minTo v S n ≤ v k) ∧ ∃ k, k < n ∧ S.testBit k = false ∧ v k = minTo v S n)
  | 0, _ => .inl ⟨rfl, fun k hk => by omega⟩
  | n + 1, h => by
    have ih := minTo_spec (v := v) (S := S) (n := n) fun k hk => h k (by omega)
    rw [minTo]
    cases hb : S.testBit n with
    | true =>
      rw [if_pos rfl]
      rcases ih with ⟨h1, h2⟩ | ⟨h1, h2, k, h3, h4⟩
      · refine .inl ⟨h1, fun k hk => ?_⟩
        by_cases e : k = n
        · subst e; exact hb
        · exact h2 k (by omega)
      · refine .inr ⟨h1, fun k hk hf => ?_, k, by omega, h4⟩
        by_cases e : k = n
        · subst e; rw [hb] at hf; cases hf
        · exact h2 k (by omega) hf
    | false =>
      rw [if_neg (by decide)]
      have hv := h n (by omega) hb
      unfold stepM
      rcases ih with ⟨h1, h2⟩ | ⟨h1, h2, k, h3, h4, h5⟩
      · rw [h1, if_pos (.inl (by omega))]
        refine .inr ⟨hv, fun k hk hf => ?_, n, by omega, hb, rfl⟩
        by_cases e : k = n
        · subst e; exact Int.le_refl _
        · rw [h2 k (by omega)] at hf; cases hf
      · by_cases hlt : v n < minTo v S n
        · rw [if_pos (.inr hlt)]
          refine .inr ⟨hv, fun k hk hf => ?_, n, by omega, hb, rfl⟩
          by_cases e : k = n
          · subst e; exact Int.le_refl _
          · have := h2 k (by omega) hf; omega
        · rw [if_neg (by omega)]
          refine .inr ⟨h1, fun k hk hf => ?_, k, by omega, h4, h5⟩
          by_cases e : k = n
          · subst e; omega
          · exact h2 k (by omega) hf
theorem firstK_some {v : Nat → Int} {S k n : Nat} {m : Int} (hk : k < n) (hb : S.testBit k = false) (hv : v k = m) (hf : ∀ j, j < k → S.testBit j = false → v j ≠ m) : firstK v S m n = some k := by
  unfold firstK
  rw [List.find?_range_eq_some]
  refine ⟨by simp [hb, hv], by simpa using hk, fun j hj => ?_⟩
  cases hbj : S.testBit j with
  | true => simp
  | false => simp [hf j hj hbj]
theorem firstK_ex {v : Nat → Int} {S n : Nat} {m : Int} (h : ∃ k, k < n ∧ S.testBit k = false ∧ v k = m) : ∃ k, firstK v S m n = some k ∧ k < n ∧ S.testBit k = false ∧ v k = m ∧ ∀ j, j < k → S.testBit j = false → v j ≠ m := by
  obtain ⟨k, h1, h2, h3⟩ := h
  cases hf : firstK v S m n with
  | none =>
    unfold firstK at hf
    rw [List.find?_eq_none] at hf
    have := hf k (by simpa using h1)
    simp [h2, h3] at this
  | some q =>
    have hf' := hf
    unfold firstK at hf
    rw [List.find?_range_eq_some] at hf
    obtain ⟨g1, g2, g3⟩ := hf
    simp at g1
    refine ⟨q, rfl, by simpa using g2, g1.1, g1.2, fun j hj hb hv => ?_⟩
    have := g3 j hj
    simp [hb, hv] at this
/-- Rows that fit into the columns left have a cost, and a first column for it. -/
theorem minF_spec {c : Nat} (hc : c ≤ 8) : ∀ {m : List (List Int)} {S : Nat}, OkM c m → S < 2 ^ c → popF S + m.length ≤ c → 0 ≤ minF c m S ∧ minF c m S ≤ 1000000 * m.length
  | [], S, _, _, _ => by simp [minF]
  | row :: rest, S, h, hS, hp => by
    have h8 : 2 ^ c ≤ 2 ^ 8 := Nat.pow_le_pow_right (by omega) hc
    have e : (2 : Nat) ^ 8 = 256 := rfl
    simp only [List.length_cons] at hp
    have hv : ∀ k, k < c → S.testBit k = false → 0 ≤ row.getD k 0 + minF c rest (S + 2 ^ k) ∧ row.getD k 0 + minF c rest (S + 2 ^ k) ≤ 1000000 * (rest.length + 1 : Nat) := by
      intro k hk hb
      obtain ⟨q1, q2⟩ := minF_spec hc (okM_tail h) (mask_lt hc hS hk hb) (by rw [pop_add (by omega) (by omega) hb]; omega)
      obtain ⟨q3, q4⟩ := okM_get h hk
      omega
    rw [minF]
    rcases minTo_spec (v := fun k => row.getD k 0 + minF c rest (S + 2 ^ k)) (S := S) (n := c) fun k hk hb => (hv k hk hb).1 with ⟨_, h2⟩ | ⟨h1, h2, k, h3, h4, h5⟩
    · obtain ⟨k, hk, hb⟩ := pop_free hc hS (by omega)
      rw [h2 k hk] at hb; cases hb
    · refine ⟨h1, ?_⟩
      rw [← h5]
      exact (hv k h3 h4).2
theorem minF_ex {c : Nat} (hc : c ≤ 8) {row : List Int} {rest : List (List Int)} {S : Nat} (h : OkM c (row :: rest)) (hS : S < 2 ^ c) (hp : popF S + rest.length < c) : ∃ k, k < c ∧ S.testBit k = false ∧ row.getD k 0 + minF c rest (S + 2 ^ k) = minF c (row :: rest) S := by
  have h8 : 2 ^ c ≤ 2 ^ 8 := Nat.pow_le_pow_right (by omega) hc
  have e : (2 : Nat) ^ 8 = 256 := rfl
  rcases minTo_spec (v := fun k => row.getD k 0 + minF c rest (S + 2 ^ k)) (S := S) (n := c) fun k hk hb => by
    have := (minF_spec hc (okM_tail h) (mask_lt hc hS hk hb) (by rw [pop_add (by omega) (by omega) hb]; omega)).1
    have := (okM_get h hk).1
    omega with ⟨_, h2⟩ | ⟨_, _, h3⟩
  · obtain ⟨k, hk, hb⟩ := pop_free hc hS (by omega)
    rw [h2 k hk] at hb; cases hb
  · exact h3

/-! the search -/
abbrev Found := Option (Int × List Int)
def updA (s : Found) (t : Int) (q : List Int) : Found := match s with
  | none => some (t, q)
  | some (b, r) => if b ≤ t then some (b, r) else some (t, q)
def skipB (s : Found) (t : Int) : Bool := match s with
  | none => false
  | some (b, _) => decide (b ≤ t)
/-- One row: the columns below n, one after the other. -/
def colsF (g : Nat → Found → Found) (p : List Int) (s : Found) : Nat → Found
  | 0 => s
  | k + 1 => if (k : Int) ∈ p then colsF g p s k else g k (colsF g p s k)
def tryF (c : Nat) : List (List Int) → List Int → Int → Found → Found
  | [], p, t, s => if skipB s t = true then s else some (t, p)
  | row :: rest, p, t, s => if skipB s t = true then s else colsF (fun k s' => tryF c rest (p ++ [(k : Int)]) (t + row.getD k 0) s') p s c
theorem upd_upd (s : Found) (a b : Int) (q r : List Int) : updA (updA s a q) b r = if b < a then updA s b r else updA s a q := by
  cases s with
  | none =>
    show (if a ≤ b then some (a, q) else some (b, r)) = if b < a then some (b, r) else some (a, q)
    by_cases h : a ≤ b
    · rw [if_pos h, if_neg (by omega)]
    · rw [if_neg h, if_pos (by omega)]
  | some x =>
    obtain ⟨m, z⟩ := x
    unfold updA
    by_cases h1 : m ≤ a
    · simp only [if_pos h1]
      by_cases h2 : b < a
      · rw [if_pos h2]
      · rw [if_neg h2, if_pos (by omega)]
    · simp only [if_neg h1]
      by_cases h2 : a ≤ b
      · rw [if_pos h2, if_neg (by omega)]
      · rw [if_neg h2, if_pos (by omega), if_neg (by omega)]
theorem upd_skip {s : Found} {t u : Int} {q : List Int} (h : skipB s t = true) (hu : t ≤ u) : updA s u q = s := by
  cases s with
  | none => cases h
  | some x =>
    obtain ⟨b, r⟩ := x
    have : b ≤ t := of_decide_eq_true h
    exact if_pos (by omega)
/-- The columns of a list are those of a set. -/
def MaskOf (p : List Int) (S : Nat) : Prop := ∀ k : Nat, S.testBit k = decide ((k : Int) ∈ p)
theorem MaskOf.nil : MaskOf [] 0 := fun k => by simp
theorem MaskOf.snoc {p : List Int} {S k : Nat} (h : MaskOf p S) (hS : S < 256) (hk : k < 8) (hb : S.testBit k = false) : MaskOf (p ++ [(k : Int)]) (S + 2 ^ k) := by
  intro j
  rw [mask_bit hS hk hb, h j]
  by_cases e : k = j
  · subst e; simp
  · have e' : ¬ ((j : Int) = (k : Int)) := by omega
    simp [e, e']
theorem colsF_spec {g : Nat → Found → Found} {p : List Int} {S : Nat} {t : Int} {v : Nat → Int} {w : Nat → List Int} {s : Found} (hm : MaskOf p S) : ∀ {n : Nat}, (∀ k, k < n → S.testBit k = false → 0 ≤ v k) → (∀ k s', k < n → S.testBit k = false → g k s' = updA s' (t + v k) (w k)) →
    (minTo v S n = -1 → colsF g p s n = s) ∧ (∀ q, firstK v S (minTo v S n) n = some q → colsF g p s n = updA s (t + minTo v S n) (w q))
  | 0, _, _ => ⟨fun _ => rfl, fun q h => by simp [firstK] at h⟩
  | n + 1, hv, hg => by
    obtain ⟨i1, i2⟩ := colsF_spec (g := g) (s := s) (w := w) (v := v) (t := t) hm (n := n) (fun k hk => hv k (by omega)) (fun k s' hk => hg k s' (by omega))
    have hsp := minTo_spec (v := v) (S := S) (n := n) fun k hk => hv k (by omega)
    have hmem : S.testBit n = decide ((n : Int) ∈ p) := hm n
    have hfs : ∀ m, firstK v S m (n + 1) = (firstK v S m n).or (if S.testBit n = false ∧ v n = m then some n else none) := by
      intro m
      unfold firstK
      rw [List.range_succ, List.find?_append]
      congr 1
      rw [List.find?_cons]
      cases S.testBit n <;> by_cases e : v n = m <;> simp [e]
    rw [minTo, colsF]
    cases hb : S.testBit n with
    | true =>
      rw [hb] at hmem
      rw [if_pos rfl, if_pos (of_decide_eq_true hmem.symm)]
      refine ⟨i1, fun q h => i2 q ?_⟩
      rw [hfs, if_neg (by rw [hb]; simp), Option.or_none] at h
      exact h
    | false =>
      rw [hb] at hmem
      rw [if_neg (by decide), if_neg (of_decide_eq_false hmem.symm)]
      have hvn := hv n (by omega) hb
      have hgn := hg n (colsF g p s n) (by omega) hb
      rw [hgn]
      unfold stepM
      rcases hsp with ⟨h1, h2⟩ | ⟨h1, h2, hex⟩
      · rw [i1 h1, h1, if_pos (.inl (by omega))]
        refine ⟨fun h => by omega, fun q h => ?_⟩
        have : firstK v S (v n) (n + 1) = some n := firstK_some (by omega) hb rfl fun j hj hbj => by rw [h2 j hj] at hbj; cases hbj
        rw [this] at h; cases h
        rfl
      · obtain ⟨k, f1, f2, f3, f4, f5⟩ := firstK_ex hex
        rw [i2 k f1, upd_upd]
        by_cases hlt : v n < minTo v S n
        · rw [if_pos (show t + v n < t + minTo v S n by omega), if_pos (show minTo v S n < 0 ∨ v n < minTo v S n from .inr hlt)]
          refine ⟨fun h => by omega, fun q h => ?_⟩
          have : firstK v S (v n) (n + 1) = some n := firstK_some (by omega) hb rfl fun j hj hbj hj' => by have := h2 j hj hbj; omega
          rw [this] at h; cases h
          rfl
        · rw [if_neg (show ¬ t + v n < t + minTo v S n by omega), if_neg (show ¬ (minTo v S n < 0 ∨ v n < minTo v S n) by omega)]
          refine ⟨fun h => by omega, fun q h => ?_⟩
          rw [hfs, f1] at h
          cases h
          rfl
theorem try_spec {c : Nat} (hc : c ≤ 8) : ∀ {m : List (List Int)} {p : List Int} {S : Nat} {t : Int} {s : Found}, OkM c m → MaskOf p S → S < 2 ^ c → popF S + m.length ≤ c → tryF c m p t s = updA s (t + minF c m S) (p ++ greedy c m S)
  | [], p, S, t, s, _, _, _, _ => by
    rw [tryF, minF, greedy, List.append_nil, Int.add_zero]
    cases s with
    | none => rfl
    | some x =>
      obtain ⟨b, r⟩ := x
      show (if decide (b ≤ t) = true then some (b, r) else some (t, p)) = if b ≤ t then some (b, r) else some (t, p)
      by_cases h : b ≤ t
      · rw [if_pos (decide_eq_true h), if_pos h]
      · rw [if_neg (by simpa using h), if_neg h]
  | row :: rest, p, S, t, s, h, hm, hS, hp => by
    have h8 : 2 ^ c ≤ 2 ^ 8 := Nat.pow_le_pow_right (by omega) hc
    have e : (2 : Nat) ^ 8 = 256 := rfl
    rw [tryF]
    have hmin := minF_spec hc h hS hp
    simp only [List.length_cons] at hp
    by_cases hs : skipB s t = true
    · rw [if_pos hs, upd_skip hs (by omega)]
    · rw [if_neg hs]
      have hv : ∀ k, k < c → S.testBit k = false → 0 ≤ row.getD k 0 + minF c rest (S + 2 ^ k) := by
        intro k hk hb
        have := (minF_spec hc (okM_tail h) (mask_lt hc hS hk hb) (by rw [pop_add (by omega) (by omega) hb]; omega)).1
        have := (okM_get h hk).1
        omega
      obtain ⟨_, h2⟩ := colsF_spec (g := fun k s' => tryF c rest (p ++ [(k : Int)]) (t + row.getD k 0) s') (s := s) (t := t) (v := fun k => row.getD k 0 + minF c rest (S + 2 ^ k)) (w := fun k => p ++ (k : Int) :: greedy c rest (S + 2 ^ k)) hm (n := c) hv (fun k s' hk hb => by
        rw [try_spec hc (okM_tail h) (hm.snoc (by omega) (by omega) hb) (mask_lt hc hS hk hb) (by rw [pop_add (by omega) (by omega) hb]; omega)]
        rw [List.append_assoc, Int.add_assoc]; rfl)
      obtain ⟨k, f1, _⟩ := firstK_ex (minF_ex hc h hS (by omega))
      have hgr : greedy c (row :: rest) S = (k : Int) :: greedy c rest (S + 2 ^ k) := by rw [greedy, f1]
      rw [hgr]
      exact h2 k f1

end Go.Proofs.Ytoeichkblclfaaa
