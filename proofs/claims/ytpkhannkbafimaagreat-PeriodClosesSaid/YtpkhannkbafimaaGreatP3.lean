/- Settling a group; the path of Net. No program in sight. -/
import Derived.Test.YtpkhannkbafimaaGreatP2
namespace Go.Proofs.YtpkhannkbafimaaGreat

/-- The index of the first element of which p holds, and the element. -/
def firstI (p : Share → Bool) : List Share → Option (Nat × Share)
  | [] => none
  | x :: r => if p x then some (0, x) else match firstI p r with
    | some (i, y) => some (i + 1, y)
    | none => none
theorem firstI_get {p : Share → Bool} : ∀ {l : List Share} {i : Nat} {x : Share}, firstI p l = some (i, x) → l[i]? = some x ∧ p x = true
  | [], i, x, h => by simp [firstI] at h
  | y :: r, i, x, h => by
    rw [firstI] at h
    split at h
    · rename_i hp; cases h; exact ⟨rfl, hp⟩
    · split at h
      · rename_i j z hz
        cases h
        have := firstI_get hz
        simpa using this
      · cases h
theorem firstI_none {p : Share → Bool} : ∀ {l : List Share}, firstI p l = none → ∀ x ∈ l, p x = false
  | [], _, x, h => by simp at h
  | y :: r, hn, x, h => by
    rw [firstI] at hn
    split at hn
    · cases hn
    · rename_i hp
      split at hn
      · cases hn
      · rename_i hr
        rcases List.mem_cons.1 h with rfl | h
        · simpa using hp
        · exact firstI_none hr x h
def neg (x : Share) : Bool := decide (x.a < 0)
def pos' (x : Share) : Bool := decide (0 < x.a)
/-- One transfer settles one position of two. -/
def stepS (g : List Share) : Option (Tfer × List Share) :=
  match firstI neg g, firstI pos' g with
  | some (i, x), some (j, y) => some (⟨x.o, y.o, min (-x.a) y.a⟩, (g.set i ⟨x.o, x.a + min (-x.a) y.a⟩).set j ⟨y.o, y.a - min (-x.a) y.a⟩)
  | _, _ => none
def settleF : Nat → List Share → List Tfer
  | 0, _ => []
  | f + 1, g => match stepS g with
    | some (t, g') => t :: settleF f g'
    | none => []
def nzc : List Share → Nat
  | [] => 0
  | x :: r => (if x.a = 0 then 0 else 1) + nzc r
theorem nzc_set {y : Share} : ∀ {g : List Share} {i : Nat} {x : Share}, g[i]? = some x → nzc (g.set i y) + (if x.a = 0 then 0 else 1) = nzc g + (if y.a = 0 then 0 else 1)
  | [], i, x, h => by simp at h
  | z :: r, 0, x, h => by simp at h; subst h; simp only [List.set_cons_zero, nzc]; omega
  | z :: r, i + 1, x, h => by
    have := nzc_set (y := y) (g := r) (i := i) (x := x) (by simpa using h)
    simp only [List.set_cons_succ, nzc]; omega
theorem sumA_set {y : Share} : ∀ {g : List Share} {i : Nat} {x : Share}, g[i]? = some x → sumA (g.set i y) + x.a = sumA g + y.a
  | [], i, x, h => by simp at h
  | z :: r, 0, x, h => by simp at h; subst h; simp only [List.set_cons_zero, sumA, amt, List.map_cons, List.sum_cons]; omega
  | z :: r, i + 1, x, h => by
    have := sumA_set (y := y) (g := r) (i := i) (x := x) (by simpa using h)
    simp only [sumA, amt, List.set_cons_succ, List.map_cons, List.sum_cons] at this ⊢; omega
theorem posAt_set {y : Share} (v : Int) : ∀ {g : List Share} {i : Nat} {x : Share}, g[i]? = some x → posAt (g.set i y) v + (if x.o = v then x.a else 0) = posAt g v + (if y.o = v then y.a else 0)
  | [], i, x, h => by simp at h
  | z :: r, 0, x, h => by simp at h; subst h; simp only [List.set_cons_zero, posAt]; omega
  | z :: r, i + 1, x, h => by
    have := posAt_set (y := y) v (g := r) (i := i) (x := x) (by simpa using h)
    simp only [List.set_cons_succ, posAt]; omega
/-- What holds of a group all along. -/
structure Grp (g : List Share) : Prop where
  ok : ∀ x ∈ g, okS x
  sum : sumA g = 0
  len : g.length ≤ 8
theorem stepS_spec {g : List Share} {t : Tfer} {g' : List Share} (hg : Grp g) (hd : (g.map (·.o)).Nodup) (h : stepS g = some (t, g')) :
    Grp g' ∧ (g'.map (·.o)).Nodup ∧ nzc g' + 1 ≤ nzc g ∧ 2 ≤ nzc g ∧ (∀ v, posAt g v = (if t.t = v then t.a else 0) - (if t.f = v then t.a else 0) + posAt g' v) ∧ okO t.f ∧ okO t.t ∧ t.f ≠ t.t ∧ 1 ≤ t.a ∧ t.a ≤ 137438953472 := by
  unfold stepS at h
  split at h
  · rename_i i x j y h1 h2
    cases h
    obtain ⟨g1, p1⟩ := firstI_get h1
    obtain ⟨g2, p2⟩ := firstI_get h2
    simp only [neg, pos', decide_eq_true_eq] at p1 p2
    have hij : j ≠ i := fun e => by subst e; rw [g1] at g2; cases g2; omega
    have hox := hg.ok x (List.mem_of_getElem? g1)
    have hoy := hg.ok y (List.mem_of_getElem? g2)
    unfold okS at hox hoy
    have hi := (List.getElem?_eq_some_iff.1 g1).1
    have hj := (List.getElem?_eq_some_iff.1 g2).1
    have hne : x.o ≠ y.o := fun e => by
      have e1 : (g.map (·.o))[i]? = some x.o := by rw [List.getElem?_map, g1]; rfl
      have e2 : (g.map (·.o))[j]? = some y.o := by rw [List.getElem?_map, g2]; rfl
      rw [← e] at e2
      have hi' : i < (g.map (·.o)).length := by simpa using hi
      have := (List.getElem?_inj hi' hd).1 (e1.trans e2.symm)
      exact hij this.symm
    have g3 : (g.set i ⟨x.o, x.a + min (-x.a) y.a⟩)[j]? = some y := by rw [List.getElem?_set_ne (Ne.symm hij)]; exact g2
    have s1 := sumA_set (y := ⟨x.o, x.a + min (-x.a) y.a⟩) g1
    have s2 := sumA_set (y := ⟨y.o, y.a - min (-x.a) y.a⟩) g3
    have n1 := nzc_set (y := ⟨x.o, x.a + min (-x.a) y.a⟩) g1
    have n2 := nzc_set (y := ⟨y.o, y.a - min (-x.a) y.a⟩) g3
    dsimp only at s1 s2 n1 n2
    have hnx : ¬ x.a = 0 := by omega
    have hny : ¬ y.a = 0 := by omega
    rw [if_neg hnx] at n1
    rw [if_neg hny] at n2
    have hs := hg.sum
    refine ⟨⟨fun z hz => ?_, by omega, by simpa using hg.len⟩, ?_, ?_, ?_, fun v => ?_, ?_, ?_, hne, ?_, ?_⟩
    · rcases List.mem_or_eq_of_mem_set hz with hz | rfl
      · rcases List.mem_or_eq_of_mem_set hz with hz | rfl
        · exact hg.ok z hz
        · exact ⟨hox.1, by dsimp only; omega, by dsimp only; omega⟩
      · exact ⟨hoy.1, by dsimp only; omega, by dsimp only; omega⟩
    · have : ((g.set i ⟨x.o, x.a + min (-x.a) y.a⟩).set j ⟨y.o, y.a - min (-x.a) y.a⟩).map (·.o) = g.map (·.o) := by
        apply List.ext_getElem?
        intro k
        rw [List.getElem?_map, List.getElem?_map]
        by_cases e1 : j = k
        · subst e1; rw [List.getElem?_set_self (by simpa using hj), g2]; rfl
        · rw [List.getElem?_set_ne e1]
          by_cases e2 : i = k
          · subst e2; rw [List.getElem?_set_self hi, g1]; rfl
          · rw [List.getElem?_set_ne e2]
      rw [this]; exact hd
    · split at n1 <;> split at n2 <;> omega
    · have g4 : (g.set i ⟨0, 0⟩)[j]? = some y := by rw [List.getElem?_set_ne (Ne.symm hij)]; exact g2
      have m1 := nzc_set (y := ⟨0, 0⟩) g1
      have m2 := nzc_set (y := ⟨0, 0⟩) g4
      rw [if_neg hnx, if_pos rfl] at m1
      rw [if_neg hny, if_pos rfl] at m2
      omega
    · have q1 := posAt_set (y := ⟨x.o, x.a + min (-x.a) y.a⟩) v g1
      have q2 := posAt_set (y := ⟨y.o, y.a - min (-x.a) y.a⟩) v g3
      dsimp only at q1 q2 ⊢
      by_cases e1 : x.o = v
      · by_cases e2 : y.o = v
        · exact absurd (e1.trans e2.symm) hne
        · simp only [if_pos e1, if_neg e2] at q1 q2 ⊢; omega
      · by_cases e2 : y.o = v
        · simp only [if_neg e1, if_pos e2] at q1 q2 ⊢; omega
        · simp only [if_neg e1, if_neg e2] at q1 q2 ⊢; omega
    · exact hox.1
    · exact hoy.1
    · dsimp only; omega
    · dsimp only; omega
  · cases h
theorem sum_nonneg : ∀ {l : List Share}, (∀ x ∈ l, 0 ≤ x.a) → 0 ≤ sumA l ∧ (sumA l = 0 → ∀ x ∈ l, x.a = 0)
  | [], _ => by simp [sumA, amt]
  | x :: r, h => by
    obtain ⟨h1, h2⟩ := sum_nonneg (l := r) fun y hy => h y (by simp [hy])
    have h0 := h x (by simp)
    have e : sumA (x :: r) = x.a + sumA r := by simp [sumA, amt]
    rw [e]
    refine ⟨by omega, fun hs y hy => ?_⟩
    rcases List.mem_cons.1 hy with rfl | hy
    · omega
    · exact h2 (by omega) y hy
theorem sum_nonpos : ∀ {l : List Share}, (∀ x ∈ l, x.a ≤ 0) → sumA l ≤ 0 ∧ (sumA l = 0 → ∀ x ∈ l, x.a = 0)
  | [], _ => by simp [sumA, amt]
  | x :: r, h => by
    obtain ⟨h1, h2⟩ := sum_nonpos (l := r) fun y hy => h y (by simp [hy])
    have h0 := h x (by simp)
    have e : sumA (x :: r) = x.a + sumA r := by simp [sumA, amt]
    rw [e]
    refine ⟨by omega, fun hs y hy => ?_⟩
    rcases List.mem_cons.1 hy with rfl | hy
    · omega
    · exact h2 (by omega) y hy
theorem stepS_none {g : List Share} (hg : Grp g) (h : stepS g = none) : ∀ x ∈ g, x.a = 0 := by
  unfold stepS at h
  split at h
  · cases h
  · rename_i hh
    cases h1 : firstI neg g with
    | none =>
      have := firstI_none h1
      exact (sum_nonneg fun x hx => by have := this x hx; simp [neg] at this; exact this).2 hg.sum
    | some p =>
      cases h2 : firstI pos' g with
      | none =>
        have := firstI_none h2
        exact (sum_nonpos fun x hx => by have := this x hx; simp [pos'] at this; exact this).2 hg.sum
      | some q => exact absurd h2 (by obtain ⟨i, x⟩ := p; obtain ⟨j, y⟩ := q; exact fun h => hh i x j y h1 h)
def okT (x : Tfer) : Prop := okO x.f ∧ okO x.t ∧ x.f ≠ x.t ∧ 1 ≤ x.a ∧ x.a ≤ 137438953472
theorem posAt_zero : ∀ {g : List Share}, (∀ x ∈ g, x.a = 0) → ∀ v, posAt g v = 0
  | [], _, _ => rfl
  | x :: r, h, v => by rw [posAt, posAt_zero (fun y hy => h y (by simp [hy])), h x (by simp)]; simp
/-- What a group's settlement is. -/
theorem settleF_spec : ∀ (f : Nat) (g : List Share), Grp g → (g.map (·.o)).Nodup → nzc g < f → (∀ x ∈ settleF f g, okT x) ∧ (∀ v, bal (settleF f g) v = posAt g v) ∧ (settleF f g).length ≤ nzc g - 1
  | 0, g, _, _, h => by omega
  | f + 1, g, hg, hd, h => by
    rw [settleF]
    cases hs : stepS g with
    | none =>
      have h0 := stepS_none hg hs
      exact ⟨by simp, fun v => (posAt_zero h0 v).symm, by simp⟩
    | some p =>
      obtain ⟨t, g'⟩ := p
      obtain ⟨h1, h2, h3, h4, h5, h6, h7, h8, h9, h10⟩ := stepS_spec hg hd hs
      obtain ⟨i1, i2, i3⟩ := settleF_spec f g' h1 h2 (by omega)
      refine ⟨fun x hx => ?_, fun v => ?_, ?_⟩
      · rcases List.mem_cons.1 hx with rfl | hx
        · exact ⟨h6, h7, h8, h9, h10⟩
        · exact i1 x hx
      · rw [bal, i2 v, h5 v]
      · simp only [List.length_cons]; omega
theorem nzc_le : ∀ g : List Share, nzc g ≤ g.length
  | [] => Nat.le_refl _
  | x :: r => by have := nzc_le r; rw [nzc, List.length_cons]; split <;> omega
def settleG (g : List Share) : List Tfer := settleF 9 g
theorem settleG_step {g : List Share} (hg : Grp g) (hd : (g.map (·.o)).Nodup) {f : Nat} (hf : nzc g < f) : settleF f g = settleG g := by
  suffices ∀ (n : Nat) (g : List Share) (f f' : Nat), nzc g < n → Grp g → (g.map (·.o)).Nodup → nzc g < f → nzc g < f' → settleF f g = settleF f' g from
    this (nzc g + 1) g f 9 (by omega) hg hd hf (by have := nzc_le g; have := hg.len; omega)
  intro n
  induction n with
  | zero => intro g f f' h; omega
  | succ n ih =>
    intro g f f' hn hg hd hf hf'
    obtain ⟨f, rfl⟩ : ∃ k, f = k + 1 := ⟨f - 1, by omega⟩
    obtain ⟨f', rfl⟩ : ∃ k, f' = k + 1 := ⟨f' - 1, by omega⟩
    rw [settleF, settleF]
    cases hs : stepS g with
    | none => rfl
    | some p =>
      obtain ⟨t, g'⟩ := p
      obtain ⟨h1, h2, h3, _⟩ := stepS_spec hg hd hs
      simp only
      rw [ih g' f f' (by omega) h1 h2 (by omega) (by omega)]
end Go.Proofs.YtpkhannkbafimaaGreat
