/- A part of the proof. -/
import Derived.Test.YtjpdaapjnpdiiaaGreatTB
namespace Go.Proofs.YtjpdaapjnpdiiaaGreat
open Go.RowKit
def ride0 : Ride := ⟨0, 0, 0, 0, 0, 0, 0⟩
def rideP (x : Ride) : Prop := (1 ≤ x.gate ∧ x.gate ≤ 9999) ∧ (1 ≤ x.serial ∧ x.serial ≤ 9999) ∧ (1 ≤ x.product ∧ x.product ≤ 9999) ∧ (1 ≤ x.lift ∧ x.lift ≤ 9999) ∧ (1 ≤ x.seq ∧ x.seq ≤ 1000000) ∧ (1 ≤ x.counter ∧ x.counter ≤ 1000000) ∧ 0 ≤ x.time ∧ x.time ≤ 20000000
instance (x : Ride) : Decidable (rideP x) := by unfold rideP; infer_instance
def befD (a b : Ride) : Prop := a.gate < b.gate ∨ (a.gate = b.gate ∧ a.seq < b.seq)
instance (a b : Ride) : Decidable (befD a b) := by unfold befD; infer_instance
def rideE (l : List Ride) (k : Nat) : Int := if ¬ rideP (at_ l ride0 k) then 2 else if 0 < k ∧ ¬ befD (at_ l ride0 (k - 1)) (at_ l ride0 k) then 11 else 0
def ridesE (l : List Ride) : Int := if 2000 < l.length then 4 else fe (rideE l) l.length
theorem pts_bnd {l : List Tariff} (h : Rates l) (r : Ride) : 0 ≤ ptsF l r ∧ ptsF l r ≤ 20000 := by
 unfold ptsF
 rcases last_at l r.time l.length with ⟨_, e⟩ | ⟨i, ⟨hi, _⟩, e⟩
 · rw [e]; exact ⟨Int.le_refl 0, (by decide : (0 : Int) ≤ 20000)⟩
 · obtain ⟨x, hx⟩ := getElem_some hi
   rw [e, at_of hx]
   dsimp only
   have hr := (h x (List.mem_of_getElem? hx)).2
   unfold ptsR
   split
   · decide
   · rename_i y hy
     obtain ⟨⟨p0, p1⟩, ⟨x0, x1⟩, _⟩ := hr y (List.mem_of_find?_eq_some hy)
     have m0 : 0 ≤ y.p * y.x := Int.mul_nonneg p0 x0
     have m1 : y.p * y.x ≤ 10000 * y.x := Int.mul_le_mul_of_nonneg_right p1 x0
     split <;> omega
def ptStep (m : Mp) (l : List Tariff) (serial : Int) (ps : List Int) (r : Ride) : List Int :=
 if r.serial = serial then match liftOf m r.lift with
   | some x => if 1 ≤ x.op ∧ x.op ≤ 8 then ps.set (x.op - 1).toNat (ps.getD (x.op - 1).toNat 0 + ptsF l r) else ps
   | none => ps
 else ps
def ptsAll (m : Mp) (l : List Tariff) (rides : List Ride) (serial : Int) : List Int := rides.foldl (ptStep m l serial) (List.replicate 8 0)
theorem ptStep_len (m : Mp) (l : List Tariff) (serial : Int) (ps : List Int) (r : Ride) : (ptStep m l serial ps r).length = ps.length := by
 unfold ptStep
 split
 · split
   · split
     · exact List.length_set
     · rfl
   · rfl
 · rfl
theorem ptsAll_snoc (m : Mp) (l : List Tariff) (rides : List Ride) (serial : Int) (r : Ride) : ptsAll m l (rides ++ [r]) serial = ptStep m l serial (ptsAll m l rides serial) r := by simp [ptsAll]
theorem ptsAll_len (m : Mp) (l : List Tariff) (serial : Int) : ∀ rides : List Ride, (ptsAll m l rides serial).length = 8 := by
 have h : ∀ (rides : List Ride) (ps : List Int), (rides.foldl (ptStep m l serial) ps).length = ps.length := by
   intro rides
   induction rides with
   | nil => intro ps; rfl
   | cons r t ih => intro ps; rw [List.foldl_cons, ih, ptStep_len]
 intro rides
 exact (h rides _).trans (by simp)
theorem ptStep_no {m : Mp} {l : List Tariff} {serial : Int} {ps : List Int} {r : Ride} (h : r.serial ≠ serial) : ptStep m l serial ps r = ps := if_neg h
theorem ptStep_none {m : Mp} {l : List Tariff} {serial : Int} {ps : List Int} {r : Ride} (h : liftOf m r.lift = none) : ptStep m l serial ps r = ps := by
 unfold ptStep; rw [h]; split <;> rfl
theorem ptStep_out {m : Mp} {l : List Tariff} {serial : Int} {ps : List Int} {r : Ride} {x : Lift} (h : liftOf m r.lift = some x) (ho : ¬ (1 ≤ x.op ∧ x.op ≤ 8)) : ptStep m l serial ps r = ps := by
 unfold ptStep; rw [h]; split
 · exact if_neg ho
 · rfl
theorem ptStep_in {m : Mp} {l : List Tariff} {serial : Int} {ps : List Int} {r : Ride} {x : Lift} {v : Int} (hs : r.serial = serial) (h : liftOf m r.lift = some x) (ho : 1 ≤ x.op ∧ x.op ≤ 8) (hv : ps[(x.op - 1).toNat]? = some v) : ptStep m l serial ps r = ps.set (x.op - 1).toNat (v + ptsF l r) := by
 unfold ptStep; rw [h, if_pos hs]
 dsimp only
 rw [if_pos ho, List.getD, hv]; rfl
theorem ptsAll_bnd {m : Mp} {l : List Tariff} (hR : Rates l) (serial : Int) : ∀ rides : List Ride, ∀ v ∈ ptsAll m l rides serial, 0 ≤ v ∧ v ≤ 20000 * (rides.length : Int) := by
 have h : ∀ (rides : List Ride) (ps : List Int) (B : Int), (∀ v ∈ ps, 0 ≤ v ∧ v ≤ B) → ∀ v ∈ rides.foldl (ptStep m l serial) ps, 0 ≤ v ∧ v ≤ B + 20000 * (rides.length : Int) := by
   intro rides
   induction rides with
   | nil => intro ps B hb v hv; have := hb v hv; simp; omega
   | cons r t ih =>
     intro ps B hb v hv
     have hstep : ∀ v ∈ ptStep m l serial ps r, 0 ≤ v ∧ v ≤ B + 20000 := by
       intro u hu
       have hp := pts_bnd hR r
       unfold ptStep at hu
       split at hu
       · split at hu
         · split at hu
           · rcases List.mem_or_eq_of_mem_set hu with hu | rfl
             · have := hb u hu; omega
             · rename_i x _ _
               cases hg : ps[(x.op - 1).toNat]? with
               | none =>
                 rw [List.set_eq_of_length_le (by rw [List.getElem?_eq_none_iff] at hg; exact hg)] at hu
                 have := hb _ hu; omega
               | some w =>
                 have := hb w (List.mem_of_getElem? hg)
                 simp only [List.getD, hg, Option.getD_some]; omega
           · have := hb u hu; omega
         · have := hb u hu; omega
       · have := hb u hu; omega
     have := ih (ptStep m l serial ps r) (B + 20000) hstep v (by simpa using hv)
     simp only [List.length_cons]; omega
 intro rides v hv
 have := h rides _ 0 (fun v hv => by rw [List.eq_of_mem_replicate hv]; omega) v hv
 omega
end Go.Proofs.YtjpdaapjnpdiiaaGreat
