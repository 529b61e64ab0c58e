/- Positions: what is right; sets of positions as numbers, the groups with the sum 0. No program in sight. -/
import Derived.Test.YtpkhannkbafimaaGreatE4
namespace Go.Proofs.YtpkhannkbafimaaGreat

structure Share where
  o : Int
  a : Int
  deriving DecidableEq
structure Tfer where
  f : Int
  t : Int
  a : Int
  deriving DecidableEq
def amt (l : List Share) : List Int := l.map (·.a)
def sumA (l : List Share) : Int := (amt l).sum
def okS (x : Share) : Prop := (1 ≤ x.o ∧ x.o ≤ 8) ∧ -137438953472 ≤ x.a ∧ x.a ≤ 137438953472
instance (x : Share) : Decidable (okS x) := by unfold okS; infer_instance
/-- The first error of the elements, in the order of the list. -/
def goE (p : Int) : List Share → Int
  | [] => 0
  | x :: r => if okS x then (if x.o ≤ p then 11 else goE x.o r) else 2
def rightF (l : List Share) : Int := if 8 < l.length then 4 else if goE 0 l = 0 then (if sumA l = 0 then 0 else 1) else goE 0 l
def prevO (l : List Share) (k : Nat) : Int := match k with
  | 0 => 0
  | j + 1 => match l[j]? with
    | some x => x.o
    | none => 0

theorem sum_snoc (l : List Int) (x : Int) : (l ++ [x]).sum = l.sum + x := by
  induction l with
  | nil => simp
  | cons y r ih => simp only [List.cons_append, List.sum_cons, ih]; omega
theorem sumA_snoc {l : List Share} {k : Nat} {x : Share} (h : l[k]? = some x) : sumA (l.take (k + 1)) = sumA (l.take k) + x.a := by
  rw [take_snoc l k x h]; unfold sumA amt; rw [List.map_append]; exact sum_snoc _ _
theorem goE_step {l : List Share} {k : Nat} {x : Share} (h : l[k]? = some x) : goE (prevO l k) (l.drop k) = if okS x then (if x.o ≤ prevO l k then 11 else goE (prevO l (k + 1)) (l.drop (k + 1))) else 2 := by
  rw [drop_of h, goE]
  have : prevO l (k + 1) = x.o := by simp [prevO, h]
  rw [this]
theorem goE_end {l : List Share} {k : Nat} (h : ¬ k < l.length) (p : Int) : goE p (l.drop k) = 0 := by rw [drop_end h]; rfl
/-- What a list that is right has. -/
structure RightP (l : List Share) : Prop where
  len : l.length ≤ 8
  ok : ∀ x ∈ l, okS x
  inc : l.Pairwise fun a b => a.o < b.o
  sum : sumA l = 0
theorem goE_ok : ∀ {l : List Share} {p : Int}, goE p l = 0 → (∀ x ∈ l, okS x) ∧ (∀ x ∈ l, p < x.o) ∧ l.Pairwise fun a b => a.o < b.o
  | [], p, _ => by simp
  | x :: r, p, h => by
    rw [goE] at h
    split at h
    · rename_i hx
      split at h
      · omega
      · rename_i hp
        obtain ⟨h1, h2, h3⟩ := goE_ok h
        refine ⟨fun y hy => ?_, fun y hy => ?_, List.pairwise_cons.2 ⟨h2, h3⟩⟩
        · rcases List.mem_cons.1 hy with rfl | hy
          · exact hx
          · exact h1 y hy
        · rcases List.mem_cons.1 hy with rfl | hy
          · omega
          · have := h2 y hy; omega
    · omega
theorem ok_goE : ∀ {l : List Share} {p : Int}, (∀ x ∈ l, okS x) → (∀ x ∈ l, p < x.o) → (l.Pairwise fun a b => a.o < b.o) → goE p l = 0
  | [], p, _, _, _ => rfl
  | x :: r, p, h1, h2, h3 => by
    obtain ⟨h4, h5⟩ := List.pairwise_cons.1 h3
    have := h2 x (by simp)
    rw [goE, if_pos (h1 x (by simp)), if_neg (by omega)]
    exact ok_goE (fun y hy => h1 y (by simp [hy])) h4 h5
theorem right_iff {l : List Share} : rightF l = 0 ↔ RightP l := by
  unfold rightF
  constructor
  · intro h
    split at h
    · omega
    · rename_i h8
      split at h
      · rename_i hg
        split at h
        · rename_i hs
          obtain ⟨h1, _, h3⟩ := goE_ok hg
          exact ⟨by omega, h1, h3, hs⟩
        · omega
      · contradiction
  · intro ⟨h1, h2, h3, h4⟩
    rw [if_neg (by omega), if_pos (ok_goE h2 (fun x hx => by have := (h2 x hx).1.1; omega) h3), if_pos h4]

/-! ### sets as numbers -/
def sumTo (az : List Int) (S : Nat) : Nat → Int
  | 0 => 0
  | k + 1 => sumTo az S k + if S.testBit k then az.getD k 0 else 0
def sumB (az : List Int) (S : Nat) : Int := sumTo az S az.length
def zB (az : List Int) (S : Nat) : Nat := if sumB az S = 0 then 1 else 0
def maxTo (g : Nat → Nat) (S : Nat) : Nat → Nat
  | 0 => 0
  | k + 1 => if S.testBit k then max (maxTo g S k) (g (S ^^^ 2 ^ k)) else maxTo g S k
def mostF (az : List Int) : Nat → Nat → Nat
  | 0, _ => 0
  | f + 1, S => if S = 0 then 0 else maxTo (mostF az f) S az.length + zB az S
def mostB (az : List Int) (S : Nat) : Nat := mostF az (S + 1) S

theorem maxTo_congr {g h : Nat → Nat} {S : Nat} : ∀ k, (∀ i, i < k → S.testBit i = true → g (S ^^^ 2 ^ i) = h (S ^^^ 2 ^ i)) → maxTo g S k = maxTo h S k
  | 0, _ => rfl
  | k + 1, hh => by
    rw [maxTo, maxTo, maxTo_congr k fun i hi => hh i (by omega)]
    split
    · rename_i hb; rw [hh k (by omega) hb]
    · rfl
theorem maxTo_le {g : Nat → Nat} {S : Nat} : ∀ {k i}, i < k → S.testBit i = true → g (S ^^^ 2 ^ i) ≤ maxTo g S k
  | 0, i, h, _ => by omega
  | k + 1, i, h, hb => by
    rw [maxTo]
    by_cases e : i = k
    · subst e; rw [if_pos hb]; omega
    · have := maxTo_le (g := g) (S := S) (k := k) (i := i) (by omega) hb
      split <;> omega
theorem maxTo_mem {g : Nat → Nat} {S : Nat} : ∀ {k}, (∃ i, i < k ∧ S.testBit i = true) → ∃ i, i < k ∧ S.testBit i = true ∧ maxTo g S k = g (S ^^^ 2 ^ i)
  | 0, ⟨i, h, _⟩ => by omega
  | k + 1, ⟨i, h, hb⟩ => by
    rw [maxTo]
    by_cases hk : S.testBit k = true
    · rw [if_pos hk]
      by_cases hex : ∃ i, i < k ∧ S.testBit i = true
      · obtain ⟨j, h1, h2, h3⟩ := maxTo_mem (g := g) hex
        by_cases hle : maxTo g S k ≤ g (S ^^^ 2 ^ k)
        · exact ⟨k, by omega, hk, by omega⟩
        · exact ⟨j, by omega, h2, by omega⟩
      · have h0 : maxTo g S k = 0 := by
          have : ∀ m, m ≤ k → maxTo g S m = 0 := by
            intro m hm
            induction m with
            | zero => rfl
            | succ m ih =>
              rw [maxTo, if_neg (fun hb => hex ⟨m, by omega, hb⟩)]
              exact ih (by omega)
          exact this k (by omega)
        exact ⟨k, by omega, hk, by omega⟩
    · rw [if_neg hk]
      have : i ≠ k := fun e => by subst e; exact hk hb
      obtain ⟨j, h1, h2, h3⟩ := maxTo_mem (g := g) (S := S) (k := k) ⟨i, by omega, hb⟩
      exact ⟨j, by omega, h2, h3⟩

theorem xor_facts : ∀ S : Fin 256, ∀ i : Fin 8, S.1.testBit i.1 = true → S.1 ^^^ (2 ^ i.1) = S.1 - 2 ^ i.1 ∧ 2 ^ i.1 ≤ S.1 := by decide +kernel
theorem clr_eq {S i : Nat} (hS : S < 256) (hi : i < 8) (h : S.testBit i = true) : S ^^^ 2 ^ i = S - 2 ^ i ∧ 2 ^ i ≤ S := xor_facts ⟨S, hS⟩ ⟨i, hi⟩ h
theorem clr_lt {S i : Nat} (hS : S < 256) (hi : i < 8) (h : S.testBit i = true) : S ^^^ 2 ^ i < S := by
  obtain ⟨h1, h2⟩ := clr_eq hS hi h
  have : 0 < 2 ^ i := Nat.two_pow_pos i
  omega
theorem clr_bit (S i j : Nat) (h : S.testBit i = true) : (S ^^^ 2 ^ i).testBit j = (S.testBit j && !decide (i = j)) := by
  rw [Nat.testBit_xor, Nat.testBit_two_pow]
  by_cases e : i = j
  · subst e; simp [h]
  · simp [e]
theorem mostF_fuel {az : List Int} (hn : az.length ≤ 8) : ∀ (S f g : Nat), S < 256 → S < f → S < g → mostF az f S = mostF az g S := by
  intro S
  induction S using Nat.strongRecOn with
  | _ S ih =>
    intro f g hS hf hg
    obtain ⟨f, rfl⟩ : ∃ f', f = f' + 1 := ⟨f - 1, by omega⟩
    obtain ⟨g, rfl⟩ : ∃ g', g = g' + 1 := ⟨g - 1, by omega⟩
    rw [mostF, mostF]
    split
    · rfl
    · congr 1
      refine maxTo_congr _ fun i hi hb => ?_
      have := clr_lt hS (by omega) hb
      exact ih _ this f g (by omega) (by omega) (by omega)
theorem most_zero (az : List Int) : mostB az 0 = 0 := rfl
theorem most_step {az : List Int} (hn : az.length ≤ 8) {S : Nat} (hS : S < 256) (h0 : S ≠ 0) : mostB az S = maxTo (mostB az) S az.length + zB az S := by
  show mostF az (S + 1) S = _
  rw [mostF, if_neg h0]
  congr 1
  refine maxTo_congr _ fun i hi hb => ?_
  have := clr_lt hS (by omega) hb
  exact mostF_fuel hn _ _ _ (by omega) (by omega) (by omega)
theorem lt_bits {S n : Nat} (h : ∀ i, S.testBit i = true → i < n) : S < 2 ^ n := Nat.lt_pow_two_of_testBit S fun i hi => by
  cases hb : S.testBit i with
  | false => rfl
  | true => have := h i hb; omega
theorem bit_lt {S n i : Nat} (h : S < 2 ^ n) (hb : S.testBit i = true) : i < n := by
  rcases Nat.lt_or_ge i n with h1 | h1
  · exact h1
  · have : S < 2 ^ i := Nat.lt_of_lt_of_le h (Nat.pow_le_pow_right (by omega) h1)
    rw [Nat.testBit_lt_two_pow this] at hb; cases hb
theorem pow_le8 {n : Nat} (h : n ≤ 8) : 2 ^ n ≤ 256 := Nat.pow_le_pow_right (by omega) h
theorem most_le {az : List Int} (hn : az.length ≤ 8) {S i : Nat} (hS : S < 2 ^ az.length) (hb : S.testBit i = true) : mostB az (S ^^^ 2 ^ i) + zB az S ≤ mostB az S := by
  have h0 : S ≠ 0 := by rintro rfl; simp at hb
  rw [most_step hn (by have := pow_le8 hn; omega) h0]
  have := maxTo_le (g := mostB az) (bit_lt hS hb) hb
  omega
theorem most_ex {az : List Int} (hn : az.length ≤ 8) {S : Nat} (hS : S < 2 ^ az.length) (h0 : S ≠ 0) : ∃ i, i < az.length ∧ S.testBit i = true ∧ mostB az S = mostB az (S ^^^ 2 ^ i) + zB az S := by
  obtain ⟨i, hi⟩ := Nat.exists_testBit_of_ne_zero h0
  obtain ⟨j, h1, h2, h3⟩ := maxTo_mem (g := mostB az) ⟨i, bit_lt hS hi, hi⟩
  exact ⟨j, h1, h2, by rw [most_step hn (by have := pow_le8 hn; omega) h0, h3]⟩
def Sub (T S : Nat) : Prop := ∀ i, T.testBit i = true → S.testBit i = true
theorem Sub.lt {T S n : Nat} (h : Sub T S) (hS : S < 2 ^ n) : T < 2 ^ n := lt_bits fun i hi => bit_lt hS (h i hi)
theorem Sub.eq_or {T S : Nat} (h : Sub T S) : T = S ∨ ∃ i, S.testBit i = true ∧ T.testBit i = false := by
  by_cases hex : ∃ i, S.testBit i = true ∧ T.testBit i = false
  · exact .inr hex
  · refine .inl (Nat.eq_of_testBit_eq fun i => ?_)
    cases hT : T.testBit i with
    | true => exact (h i hT).symm
    | false =>
      cases hSi : S.testBit i with
      | false => rfl
      | true => exact absurd ⟨i, hSi, hT⟩ hex
theorem Sub.clr {T S i : Nat} (h : Sub T S) (h1 : S.testBit i = true) (h2 : T.testBit i = false) : Sub T (S ^^^ 2 ^ i) := by
  intro j hj
  rw [clr_bit _ _ _ h1, h j hj]
  have : i ≠ j := fun e => by subst e; rw [h2] at hj; cases hj
  simp [this]
theorem most_mono {az : List Int} (hn : az.length ≤ 8) : ∀ (S T : Nat), S < 2 ^ az.length → Sub T S → mostB az T ≤ mostB az S := by
  intro S
  induction S using Nat.strongRecOn with
  | _ S ih =>
    intro T hS h
    rcases h.eq_or with rfl | ⟨i, h1, h2⟩
    · exact Nat.le_refl _
    · have hlt := clr_lt (by have := pow_le8 hn; omega) (by have := bit_lt hS h1; omega) h1
      have := ih _ hlt T (by omega) (h.clr h1 h2)
      have := most_le hn hS h1
      omega
theorem most_more {az : List Int} (hn : az.length ≤ 8) {S T : Nat} (hS : S < 2 ^ az.length) (h : Sub T S) (hne : T ≠ S) (hz : sumB az S = 0) : mostB az T + 1 ≤ mostB az S := by
  rcases h.eq_or with rfl | ⟨i, h1, h2⟩
  · exact absurd rfl hne
  · have hlt := clr_lt (by have := pow_le8 hn; omega) (by have := bit_lt hS h1; omega) h1
    have := most_mono hn _ T (by omega) (h.clr h1 h2)
    have := most_le hn hS h1
    unfold zB at this
    rw [if_pos hz] at this
    omega

/-! ### sets of which the members are told -/
def maskOf (p : Nat → Bool) : Nat → Nat
  | 0 => 0
  | k + 1 => maskOf p k ||| (if p k then 2 ^ k else 0)
theorem mask_bit (p : Nat → Bool) : ∀ k j, (maskOf p k).testBit j = (decide (j < k) && p j)
  | 0, j => by simp [maskOf]
  | k + 1, j => by
    rw [maskOf, Nat.testBit_or, mask_bit p k j]
    by_cases e : j = k
    · subst e
      cases hp : p j <;> simp
    · cases hp : p k <;> simp [Ne.symm e, show (j < k + 1) ↔ j < k by omega]
theorem mask_lt (p : Nat → Bool) (k : Nat) : maskOf p k < 2 ^ k := lt_bits fun i hi => by
  rw [mask_bit] at hi; simp at hi; exact hi.1
theorem sumTo_clr {az : List Int} {S i : Nat} (hb : S.testBit i = true) : ∀ k, sumTo az S k = sumTo az (S ^^^ 2 ^ i) k + if i < k then az.getD i 0 else 0
  | 0 => by simp [sumTo]
  | k + 1 => by
    rw [sumTo, sumTo, sumTo_clr hb k, clr_bit _ _ _ hb]
    by_cases e : i = k
    · subst e; simp [hb]
    · by_cases hlt : i < k
      · have h2 : i < k + 1 := by omega
        simp only [if_pos hlt, if_pos h2, e, decide_false, Bool.not_false, Bool.and_true]; omega
      · have h2 : ¬ i < k + 1 := by omega
        simp only [if_neg hlt, if_neg h2, e, decide_false, Bool.not_false, Bool.and_true]; omega
theorem sumB_clr {az : List Int} {S i : Nat} (hb : S.testBit i = true) (hi : i < az.length) : sumB az S = sumB az (S ^^^ 2 ^ i) + az.getD i 0 := by
  unfold sumB; rw [sumTo_clr hb, if_pos hi]
theorem sumB_zero (az : List Int) : sumB az 0 = 0 := by
  unfold sumB
  generalize az.length = k
  induction k with
  | zero => rfl
  | succ k ih => rw [sumTo, ih]; simp
end Go.Proofs.YtpkhannkbafimaaGreat
