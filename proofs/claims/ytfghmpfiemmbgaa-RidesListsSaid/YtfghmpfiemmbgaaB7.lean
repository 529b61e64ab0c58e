/- The abstract walk is sound: a region in any order. No program in sight. -/
import Derived.Test.YtfghmpfiemmbgaaB6
namespace Go.Proofs.Ytfghmpfiemmbgaa
open Go.RowKit

section
variable {P : Program}

/-- What an operation puts into its slot. -/
def putOf (o : Opn) (s' : St) : Option (Nat × SV) :=
  match o.dst with
  | some t => match look s'.env t with
    | some v => some (t, v)
    | none => none
  | none => none

theorem goes_env {o : Opn} {s s' : St} (h : Goes P o s s') : (o.dst = none ∧ s'.env = s.env ∧ putOf o s' = none) ∨ ∃ t v, o.dst = some t ∧ s'.env = (t, v) :: s.env ∧ putOf o s' = some (t, v) := by
  have key : ∀ (r : St) (v : SV), r.env = s.env → (o.dst = none ∧ (r.set o.dst v).env = s.env ∧ putOf o (r.set o.dst v) = none) ∨ ∃ t v', o.dst = some t ∧ (r.set o.dst v).env = (t, v') :: s.env ∧ putOf o (r.set o.dst v) = some (t, v') := by
    intro r v he
    cases hd : o.dst with
    | none => exact .inl ⟨rfl, he, by simp [putOf, hd]⟩
    | some t =>
      refine .inr ⟨t, v, rfl, by simp [St.set, he], ?_⟩
      simp only [putOf, hd, St.set]
      rw [look_cons, if_pos rfl]
  rcases h with ⟨v, _, xs, _, ⟨_, _, rfl⟩ | ⟨_, t, he, _, rfl⟩⟩ | ⟨t, b, _, _, rfl⟩
  · exact key s v rfl
  · exact key t v he
  · exact key s .und rfl
theorem set_heap (s : St) (d : Option Nat) (v : SV) : (s.set d v).heap = s.heap ∧ (s.set d v).nx = s.nx := by cases d <;> exact ⟨rfl, rfl⟩

variable {ios : List Opn} {S : Nat → St}

/-- The slots once the operations of D have come up. -/
def envL (ios : List Opn) (S : Nat → St) (D : Nat → Bool) : Nat → List (Nat × SV)
  | 0 => (S 0).env
  | k + 1 => match D k, (ios[k]?).bind fun o => putOf o (S (k + 1)) with
    | true, some p => p :: envL ios S D k
    | _, _ => envL ios S D k
/-- Whether operation k changes what the call owns. -/
def effAt (ios : List Opn) (k : Nat) : Bool := match ios[k]? with
  | some o => o.op.eff
  | none => false
def heapL (ios : List Opn) (S : Nat → St) (D : Nat → Bool) : Nat → List (Nat × Ob) × Nat
  | 0 => ((S 0).heap, (S 0).nx)
  | k + 1 => match D k && effAt ios k with
    | true => ((S (k + 1)).heap, (S (k + 1)).nx)
    | false => heapL ios S D k

def wr (ios : List Opn) (k t : Nat) : Prop := ∃ o, ios[k]? = some o ∧ o.dst = some t

theorem envL_agree {D D' : Nat → Bool} {t : Nat} : ∀ (n : Nat), (∀ k, k < n → wr ios k t → D k = D' k) → look (envL ios S D n) t = look (envL ios S D' n) t
  | 0, _ => rfl
  | n + 1, h => by
    have ih := envL_agree n (fun k hk hw => h k (by omega) hw)
    simp only [envL]
    cases hp : (ios[n]?).bind fun o => putOf o (S (n + 1)) with
    | none => cases D n <;> cases D' n <;> exact ih
    | some p =>
      obtain ⟨t', v⟩ := p
      by_cases e : t' = t
      · subst e
        have hw : wr ios n t' := by
          cases ho : ios[n]? with
          | none => rw [ho] at hp; cases hp
          | some o =>
            rw [ho] at hp
            simp only [Option.bind_some, putOf] at hp
            split at hp
            · rename_i t'' hd
              split at hp
              · cases hp; exact ⟨o, ho, hd⟩
              · cases hp
            · cases hp
        rw [h n (by omega) hw]
        cases D' n
        · exact ih
        · simp only [look_cons, if_true]
      · cases D n <;> cases D' n <;> simp only [look_cons, if_neg e] <;> exact ih

theorem envL_upto (hS : ∀ i o, ios[i]? = some o → Goes P o (S i) (S (i + 1))) (i : Nat) (hi : i ≤ ios.length) : ∀ (n : Nat), n ≤ i → envL ios S (fun k => Nat.blt k i) n = (S n).env
  | 0, _ => rfl
  | n + 1, h => by
    have ih := envL_upto hS i hi n (by omega)
    have ho : ios[n]? = some ios[n] := List.getElem?_eq_getElem (by omega)
    have hb : Nat.blt n i = true := by simp [Nat.blt_eq]; omega
    simp only [envL, hb, ho, Option.bind_some]
    rcases goes_env (hS n _ ho) with ⟨_, e1, e2⟩ | ⟨t, v, _, e1, e2⟩
    · rw [e2, e1]; exact ih
    · rw [e2, e1, ih]
theorem envL_past {D : Nat → Bool} (i : Nat) (hD : ∀ k, i ≤ k → D k = false) : ∀ n, i ≤ n → envL ios S D n = envL ios S D i
  | 0, h => by have : i = 0 := by omega
               subst this; rfl
  | n + 1, h => by
    by_cases e : i = n + 1
    · subst e; rfl
    · rw [← envL_past i hD n (by omega)]
      simp only [envL, hD n (by omega)]
theorem look_upto (hS : ∀ i o, ios[i]? = some o → Goes P o (S i) (S (i + 1))) {D : Nat → Bool} {i t : Nat} (hi : i ≤ ios.length) (h : ∀ k, k < ios.length → wr ios k t → (D k = true ↔ k < i)) : look (envL ios S D ios.length) t = look (S i).env t := by
  have h1 := envL_agree (ios := ios) (S := S) (D := D) (D' := fun k => Nat.blt k i) (t := t) ios.length (fun k hk hw => by
    have := h k hk hw
    rw [Bool.eq_iff_iff, this]; simp [Nat.blt_eq])
  have h2 := envL_past (ios := ios) (S := S) (D := fun k => Nat.blt k i) i (fun k hk => by
    cases hb : Nat.blt k i with
    | false => rfl
    | true => simp [Nat.blt_eq] at hb; omega) _ hi
  rw [h1, h2, envL_upto hS i hi i (Nat.le_refl _)]

theorem goes_heap {o : Opn} {s s' : St} (h : Goes P o s s') (he : o.op.eff = false) : s'.heap = s.heap ∧ s'.nx = s.nx := by
  rcases h with ⟨v, _, xs, _, ⟨_, _, rfl⟩ | ⟨h1, _⟩⟩ | ⟨t, b, _, _, rfl⟩
  · exact set_heap _ _ _
  · rw [he] at h1; cases h1
  · exact set_heap _ _ _
theorem heapL_upto (hS : ∀ i o, ios[i]? = some o → Goes P o (S i) (S (i + 1))) {D : Nat → Bool} (i : Nat) (hi : i ≤ ios.length) (h : ∀ k, k < ios.length → effAt ios k = true → (D k = true ↔ k < i)) : heapL ios S D ios.length = ((S i).heap, (S i).nx) := by
  have low : ∀ n, n ≤ i → heapL ios S D n = ((S n).heap, (S n).nx) := by
    intro n
    induction n with
    | zero => intro _; rfl
    | succ n ih =>
      intro hn
      have ho : ios[n]? = some ios[n] := List.getElem?_eq_getElem (by omega)
      simp only [heapL]
      cases he : effAt ios n with
      | true =>
        rw [(h n (by omega) he).2 (by omega)]
        rfl
      | false =>
        have he' : ios[n].op.eff = false := by simpa [effAt, ho] using he
        obtain ⟨q1, q2⟩ := goes_heap (hS n _ ho) he'
        rw [Bool.and_false, q1, q2]
        exact ih (by omega)
  have high : ∀ n, i ≤ n → n ≤ ios.length → heapL ios S D n = heapL ios S D i := by
    intro n
    induction n with
    | zero => intro h _; have : i = 0 := by omega
              subst this; rfl
    | succ n ih =>
      intro h1 h2
      by_cases e : i = n + 1
      · subst e; rfl
      · rw [← ih (by omega) (by omega)]
        simp only [heapL]
        cases he : effAt ios n with
        | true =>
          have : D n = false := by
            cases hd : D n with
            | false => rfl
            | true => have := (h n (by omega) he).1 hd; omega
          rw [this]; rfl
        | false => rw [Bool.and_false]
  rw [high ios.length hi (Nat.le_refl _), low i (Nat.le_refl _)]
end
end Go.Proofs.Ytfghmpfiemmbgaa
