/- A part of the proof. -/
import Derived.Test.YtjpdaapjnpdiiaaGreatE3
namespace Go.Proofs.YtjpdaapjnpdiiaaGreat
open Go.RowKit
def fe (f : Nat → Int) : Nat → Int
 | 0 => 0
 | k + 1 => if fe f k ≠ 0 then fe f k else f k
theorem fe_go {f : Nat → Int} {k : Nat} (h0 : fe f k = 0) (h : f k = 0) : fe f (k + 1) = 0 := by rw [fe, if_neg (by omega), h]
theorem fe_stay {f : Nat → Int} {k : Nat} (h : fe f k ≠ 0) : ∀ m : Nat, fe f (k + m) = fe f k
 | 0 => rfl
 | m + 1 => by
   have ih := fe_stay h m
   show fe f (k + m + 1) = _
   rw [fe, if_pos (by rw [ih]; exact h), ih]
theorem fe_hit {f : Nat → Int} {n k : Nat} {e : Int} (hk : k < n) (h0 : fe f k = 0) (h : f k = e) (he : e ≠ 0) : fe f n = e := by
 have h1 : fe f (k + 1) = e := by rw [fe, if_neg (by omega), h]
 obtain ⟨m, rfl⟩ : ∃ m, n = k + 1 + m := ⟨n - (k + 1), by omega⟩
 rw [fe_stay (by rw [h1]; exact he), h1]
theorem fe_all {f : Nat → Int} : ∀ {n : Nat}, fe f n = 0 → ∀ k < n, f k = 0
 | 0, _, k, hk => by omega
 | n + 1, h, k, hk => by
   rw [fe] at h
   split at h
   · rename_i h1; exact absurd h h1
   · rename_i h1
     have h1 : fe f n = 0 := Decidable.not_not.1 h1
     by_cases e : k = n
     · subst e; exact h
     · exact fe_all h1 k (by omega)
structure Node where
 id : Int
 alt : Int
structure Lift where
 id : Int
 op : Int
 frm : Int
 to : Int
 len : Int
 spd : Int
 seats : Int
 sp : Int
structure Rn where
 id : Int
 op : Int
 frm : Int
 to : Int
 gr : Int
 zone : Int
 len : Int
structure Mp where
 nodes : List Node
 lifts : List Lift
 runs : List Rn
 bases : List Int
def node0 : Node := ⟨0, 0⟩
def lift0 : Lift := ⟨0, 0, 0, 0, 0, 0, 0, 0⟩
def run0 : Rn := ⟨0, 0, 0, 0, 0, 0, 0⟩
def at_ {α : Type} (l : List α) (z : α) (k : Nat) : α := l.getD k z
theorem at_of {α : Type} {l : List α} {z : α} {k : Nat} {x : α} (h : l[k]? = some x) : at_ l z k = x := by simp [at_, List.getD, h]
def firstOf {α : Type} (p : α → Bool) (l : List α) : Option α := l.find? p
theorem first_at {α : Type} {p : α → Bool} {l : List α} {k : Nat} {x : α} (hx : l[k]? = some x) (hn : ∀ y ∈ l.take k, p y = false) (h : p x = true) : firstOf p l = some x := by
 obtain ⟨hk, rfl⟩ := List.getElem?_eq_some_iff.1 hx
 rw [firstOf, List.find?_eq_some_iff_getElem]
 refine ⟨h, k, hk, rfl, fun j hj => ?_⟩
 have := hn l[j] (List.mem_of_getElem? (i := j) (by rw [List.getElem?_take, if_pos hj, List.getElem?_eq_getElem]))
 simp [this]
theorem first_none {α : Type} {p : α → Bool} {l : List α} (hn : ∀ y ∈ l, p y = false) : firstOf p l = none := by
 rw [firstOf, List.find?_eq_none]
 intro x hx
 simp [hn x hx]
theorem first_step {α : Type} {p : α → Bool} {l : List α} {k : Nat} {x : α} (hx : l[k]? = some x) (hn : ∀ y ∈ l.take k, p y = false) (h : p x = false) : ∀ y ∈ l.take (k + 1), p y = false := by
 intro y hy
 rw [take_snoc l k x hx] at hy
 rcases List.mem_append.1 hy with h' | h'
 · exact hn y h'
 · rw [List.mem_singleton] at h'; subst h'; exact h
def nodeOf (m : Mp) (i : Int) : Option Node := firstOf (fun x => decide (x.id = i)) m.nodes
def liftOf (m : Mp) (i : Int) : Option Lift := firstOf (fun x => decide (x.id = i)) m.lifts
def within (n a b : Int) : Prop := a ≤ n ∧ n ≤ b
instance (n a b : Int) : Decidable (within n a b) := by unfold within; infer_instance
theorem within_tt {n a b : Int} (h : decide (within n a b) = true) : a ≤ n ∧ n ≤ b := of_decide_eq_true h
def nodeE (l : List Node) (k : Nat) : Int := if ¬ (within (at_ l node0 k).id 1 9999 ∧ within (at_ l node0 k).alt 0 5000) then 2 else if 0 < k ∧ (at_ l node0 k).id ≤ (at_ l node0 (k - 1)).id then 7 else 0
def risesE (m : Mp) (f t : Int) : Int := if (nodeOf m f).isSome = false ∨ (nodeOf m t).isSome = false then 8 else if ((nodeOf m t).getD node0).alt ≤ ((nodeOf m f).getD node0).alt then 11 else 0
def carrP (x : Lift) : Prop := (2 * x.len).tmod x.sp = 0 ∧ within ((2 * x.len).tdiv x.sp) 1 200
instance (x : Lift) : Decidable (carrP x) := by unfold carrP; infer_instance
def liftP (x : Lift) : Prop := within x.id 1 9999 ∧ within x.op 1 8 ∧ within x.len 10 6000 ∧ within x.spd 500 12000 ∧ within x.seats 1 16 ∧ within x.sp 5 1000
instance (x : Lift) : Decidable (liftP x) := by unfold liftP; infer_instance
def liftE (m : Mp) (k : Nat) : Int := if ¬ liftP (at_ m.lifts lift0 k) then 2 else if 0 < k ∧ (at_ m.lifts lift0 k).id ≤ (at_ m.lifts lift0 (k - 1)).id then 7 else if risesE m (at_ m.lifts lift0 k).frm (at_ m.lifts lift0 k).to ≠ 0 then risesE m (at_ m.lifts lift0 k).frm (at_ m.lifts lift0 k).to else if ¬ carrP (at_ m.lifts lift0 k) then 1 else 0
def runP (x : Rn) : Prop := within x.id 1 9999 ∧ within x.op 1 8 ∧ within x.gr 1 4 ∧ within x.zone 1 32 ∧ within x.len 10 20000
instance (x : Rn) : Decidable (runP x) := by unfold runP; infer_instance
def runE (m : Mp) (k : Nat) : Int := if ¬ runP (at_ m.runs run0 k) then 2 else if 0 < k ∧ (at_ m.runs run0 k).id ≤ (at_ m.runs run0 (k - 1)).id then 7 else risesE m (at_ m.runs run0 k).to (at_ m.runs run0 k).frm
def baseE (m : Mp) (k : Nat) : Int := if (nodeOf m (at_ m.bases 0 k)).isSome = false then 8 else 0
def incE (m : Mp) (k : Nat) : Int := if 0 < k ∧ at_ m.bases 0 k ≤ at_ m.bases 0 (k - 1) then 7 else 0
def basesE (m : Mp) : Int := if m.bases.length = 0 then 8 else if fe (baseE m) m.bases.length ≠ 0 then fe (baseE m) m.bases.length else fe (incE m) m.bases.length
def rightM (m : Mp) : Int := if 64 < m.nodes.length ∨ 32 < m.lifts.length ∨ 64 < m.runs.length ∨ 64 < m.bases.length then 4 else if fe (nodeE m.nodes) m.nodes.length ≠ 0 then fe (nodeE m.nodes) m.nodes.length else if fe (liftE m) m.lifts.length ≠ 0 then fe (liftE m) m.lifts.length else if fe (runE m) m.runs.length ≠ 0 then fe (runE m) m.runs.length else basesE m
end Go.Proofs.YtjpdaapjnpdiiaaGreat
