/- A part of the proof. -/
import Derived.Test.YtjpdaapjnpdiiaaGreatQP1
namespace Go.Proofs.YtjpdaapjnpdiiaaGreat.P
open Go.RowKit
def fe (f : Nat → Int) : Nat → Int
 | 0 => 0
 | k + 1 => if fe f k ≠ 0 then fe f k else f k
theorem fe_go {f : Nat → Int} {k : Nat} (h0 : fe f k = 0) (h : f k = 0) : fe f (k + 1) = 0 := by rw [fe, if_neg (by omega), h]
theorem fe_stay {f : Nat → Int} {k : Nat} (h : fe f k ≠ 0) : ∀ m : Nat, fe f (k + m) = fe f k
 | 0 => rfl
 | m + 1 => by
   have ih := fe_stay h m
   show fe f (k + m + 1) = _
   rw [fe, if_pos (by rw [ih]; exact h), ih]
theorem fe_hit {f : Nat → Int} {n k : Nat} {e : Int} (hk : k < n) (h0 : fe f k = 0) (h : f k = e) (he : e ≠ 0) : fe f n = e := by
 have h1 : fe f (k + 1) = e := by rw [fe, if_neg (by omega), h]
 obtain ⟨m, rfl⟩ : ∃ m, n = k + 1 + m := ⟨n - (k + 1), by omega⟩
 rw [fe_stay (by rw [h1]; exact he), h1]
theorem fe_all {f : Nat → Int} : ∀ {n : Nat}, fe f n = 0 → ∀ k < n, f k = 0
 | 0, _, k, hk => by omega
 | n + 1, h, k, hk => by
   rw [fe] at h
   split at h
   · rename_i h1; exact absurd h h1
   · rename_i h1
     have h1 : fe f n = 0 := Decidable.not_not.1 h1
     by_cases e : k = n
     · subst e; exact h
     · exact fe_all h1 k (by omega)
def at_ {α : Type} (l : List α) (z : α) (k : Nat) : α := l.getD k z
theorem at_of {α : Type} {l : List α} {z : α} {k : Nat} {x : α} (h : l[k]? = some x) : at_ l z k = x := by simp [at_, List.getD, h]
def firstOf {α : Type} (p : α → Bool) (l : List α) : Option α := l.find? p
theorem first_at {α : Type} {p : α → Bool} {l : List α} {k : Nat} {x : α} (hx : l[k]? = some x) (hn : ∀ y ∈ l.take k, p y = false) (h : p x = true) : firstOf p l = some x := by
 obtain ⟨hk, rfl⟩ := List.getElem?_eq_some_iff.1 hx
 rw [firstOf, List.find?_eq_some_iff_getElem]
 refine ⟨h, k, hk, rfl, fun j hj => ?_⟩
 have := hn l[j] (List.mem_of_getElem? (i := j) (by rw [List.getElem?_take, if_pos hj, List.getElem?_eq_getElem]))
 simp [this]
theorem first_none {α : Type} {p : α → Bool} {l : List α} (hn : ∀ y ∈ l, p y = false) : firstOf p l = none := by
 rw [firstOf, List.find?_eq_none]
 intro x hx
 simp [hn x hx]
structure Ride where
 gate : Int
 seq : Int
 serial : Int
 counter : Int
 product : Int
 lift : Int
 time : Int
 deriving DecidableEq
structure Per where
 num : Int
 fr : Int
 to : Int
 cl : Bool
 sh : List Share
 deriving DecidableEq
structure Pst where
 ref : Int
 fr : Int
 to : Int
 am : Int
 deriving DecidableEq
structure Cnt where
 per : Int
 r : Ride
 deriving DecidableEq
structure Bk where
 ps : List Per
 po : List Pst
 rs : List Cnt
 deriving DecidableEq
def ride0 : Ride := ⟨0, 0, 0, 0, 0, 0, 0⟩
def share0 : Share := ⟨0, 0⟩
def per0 : Per := ⟨0, 0, 0, false, []⟩
def pst0 : Pst := ⟨0, 0, 0, 0⟩
def cnt0 : Cnt := ⟨0, ride0⟩
def bk0 : Bk := ⟨[], [], []⟩
def accP (x : Share) : Prop := (1 ≤ x.o ∧ x.o ≤ 8) ∧ 0 ≤ x.a ∧ x.a ≤ 137438953472
instance (x : Share) : Decidable (accP x) := by unfold accP; infer_instance
def accE (l : List Share) (k : Nat) : Int := if ¬ accP (at_ l share0 k) then 1 else if 0 < k ∧ (at_ l share0 k).o ≤ (at_ l share0 (k - 1)).o then 1 else 0
def accB (l : List Share) : Bool := decide (fe (accE l) l.length = 0)
def rideP (x : Ride) : Prop := (1 ≤ x.gate ∧ x.gate ≤ 9999) ∧ (1 ≤ x.serial ∧ x.serial ≤ 9999) ∧ (1 ≤ x.product ∧ x.product ≤ 9999) ∧ (1 ≤ x.lift ∧ x.lift ≤ 9999) ∧ (1 ≤ x.seq ∧ x.seq ≤ 1000000) ∧ (1 ≤ x.counter ∧ x.counter ≤ 1000000) ∧ 0 ≤ x.time ∧ x.time ≤ 20000000
instance (x : Ride) : Decidable (rideP x) := by unfold rideP; infer_instance
def befD (a b : Ride) : Prop := a.gate < b.gate ∨ (a.gate = b.gate ∧ a.seq < b.seq)
instance (a b : Ride) : Decidable (befD a b) := by unfold befD; infer_instance
def keyB (g s : Int) (c : Cnt) : Bool := decide (c.r.gate = g ∧ c.r.seq = s)
def endOf (l : List Per) : Int := match l.getLast? with
 | some p => p.to
 | none => 0
def opB (p : Per) : Bool := !p.cl
def perE (l : List Per) (k : Nat) : Int :=
 if (at_ l per0 k).num ≠ (k : Int) + 1 ∨ (at_ l per0 k).fr ≠ endOf (l.take k) ∨ (at_ l per0 k).to ≤ (at_ l per0 k).fr ∨ 20000000 < (at_ l per0 k).to then 11
 else if ((at_ l per0 k).cl = true ∧ (l.take k).any opB = true) ∨ ((at_ l per0 k).cl = false ∧ 0 < (at_ l per0 k).sh.length) then 10
 else if accB (at_ l per0 k).sh = false then 1 else 0
def persE (l : List Per) : Int := fe (perE l) l.length
def fidx {α : Type} (p : α → Bool) (l : List α) : Option Nat := l.findIdx? p
theorem fidx_at {α : Type} {p : α → Bool} {l : List α} {k : Nat} {x : α} (hx : l[k]? = some x) (hn : ∀ y ∈ l.take k, p y = false) (h : p x = true) : fidx p l = some k := by
 unfold fidx
 rw [List.findIdx?_eq_some_iff_getElem]
 obtain ⟨hk, e⟩ := List.getElem?_eq_some_iff.1 hx
 refine ⟨hk, by rw [e]; exact h, fun j hj => ?_⟩
 rw [hn _ (List.mem_of_getElem? (i := j) (by rw [List.getElem?_take_of_lt hj]; exact List.getElem?_eq_getElem (by omega)))]
 exact Bool.false_ne_true
theorem fidx_none {α : Type} {p : α → Bool} {l : List α} (hn : ∀ y ∈ l, p y = false) : fidx p l = none := by
 unfold fidx
 rw [List.findIdx?_eq_none_iff]
 exact hn
theorem fidx_some {α : Type} {p : α → Bool} {l : List α} {k : Nat} (h : fidx p l = some k) : ∃ x, l[k]? = some x ∧ p x = true ∧ ∀ y ∈ l.take k, p y = false := by
 unfold fidx at h
 rw [List.findIdx?_eq_some_iff_getElem] at h
 obtain ⟨hk, hp, hn⟩ := h
 refine ⟨l[k], List.getElem?_eq_getElem hk, hp, fun y hy => ?_⟩
 obtain ⟨j, hj⟩ := List.mem_iff_getElem?.1 hy
 by_cases hjk : j < k
 · rw [List.getElem?_take_of_lt hjk] at hj
   obtain ⟨hjl, rfl⟩ := List.getElem?_eq_some_iff.1 hj
   simpa using hn j hjk
 · rw [List.getElem?_take_eq_none (by omega)] at hj; cases hj
theorem fidx_no {α : Type} {p : α → Bool} {l : List α} (h : fidx p l = none) : ∀ y ∈ l, p y = false := by
 unfold fidx at h
 exact List.findIdx?_eq_none_iff.1 h
theorem no_step {α : Type} {p : α → Bool} {l : List α} {k : Nat} {x : α} (hx : l[k]? = some x) (hn : ∀ y ∈ l.take k, p y = false) (h : p x = false) : ∀ y ∈ l.take (k + 1), p y = false := by
 intro y hy
 rw [take_snoc l k x hx, List.mem_append] at hy
 rcases hy with hy | hy
 · exact hn y hy
 · rw [List.mem_singleton.1 hy]; exact h
def firstN (l : List Per) : Int := match fidx opB l with
 | some i => (i : Int) + 1
 | none => 0
def firstC (l : List Per) : Int := match fidx opB l with
 | some i => (at_ l per0 i).num
 | none => 0
theorem any_fidx {l : List Per} : l.any opB = (decide (firstN l ≠ 0)) := by
 unfold firstN
 cases h : fidx opB l with
 | none =>
   have := fidx_no h
   simp only [ne_eq, not_true_eq_false, decide_false]
   rw [List.any_eq_false]
   intro y hy
   rw [this y hy]; exact Bool.false_ne_true
 | some i =>
   obtain ⟨x, hx, hp, _⟩ := fidx_some h
   rw [List.any_eq_true.2 ⟨x, List.mem_of_getElem? hx, hp⟩]
   exact (decide_eq_true (by dsimp only; omega)).symm
def ledP (x : Pst) : Prop := (1 ≤ x.ref ∧ x.ref ≤ 1000000000) ∧ (0 ≤ x.fr ∧ x.fr ≤ 9999) ∧ (0 ≤ x.to ∧ x.to ≤ 9999) ∧ 1 ≤ x.am ∧ x.am ≤ 1099511627776
instance (x : Pst) : Decidable (ledP x) := by unfold ledP; infer_instance
def refB (n : Int) (x : Pst) : Bool := decide (x.ref = n)
def ledE (l : List Pst) (k : Nat) : Int := if ¬ ledP (at_ l pst0 k) then 2 else if (at_ l pst0 k).fr = (at_ l pst0 k).to then 1 else if (l.take k).any (refB (at_ l pst0 k).ref) = true then 7 else 0
def ledR (l : List Pst) : Int := if 2000 < l.length then 4 else fe (ledE l) l.length
def cntE (b : Bk) (k : Nat) : Int :=
 if (at_ b.rs cnt0 k).per < 1 ∨ (b.ps.length : Int) < (at_ b.rs cnt0 k).per then 8
 else if ¬ rideP (at_ b.rs cnt0 k).r then 2
 else if (at_ b.ps per0 ((at_ b.rs cnt0 k).per - 1).toNat).to ≤ (at_ b.rs cnt0 k).r.time then 11
 else if (b.rs.take k).any (keyB (at_ b.rs cnt0 k).r.gate (at_ b.rs cnt0 k).r.seq) = true then 7 else 0
def cntR (b : Bk) : Int := fe (cntE b) b.rs.length
def rightB (b : Bk) : Int := if 64 < b.ps.length ∨ 2000 < b.rs.length then 4 else if persE b.ps ≠ 0 then persE b.ps else if ledR b.po ≠ 0 then ledR b.po else cntR b
end Go.Proofs.YtjpdaapjnpdiiaaGreat.P
