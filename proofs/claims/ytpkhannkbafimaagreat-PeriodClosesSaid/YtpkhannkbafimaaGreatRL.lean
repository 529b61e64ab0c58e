/- Periods: what the operations keep: plain. -/
import Derived.Test.YtpkhannkbafimaaGreatRJ
namespace Go.Proofs.YtpkhannkbafimaaGreat
open Go.RowKit
theorem opR_spec {r : Ride} {x : Per} (h : opR r x = true) : x.cl = false ∧ r.time < x.to := by
  unfold opR at h
  rw [Bool.and_eq_true] at h
  exact ⟨by simpa using h.1, of_decide_eq_true h.2⟩
/-- What Enter does when it goes well. -/
theorem ent_cases {b : Bk} {r : Ride} (he : entE b r = 0) : rideP r ∧ ((∃ i c, fidx (keyB r.gate r.seq) b.rs = some i ∧ b.rs[i]? = some c ∧ c.r = r ∧ entB b r = b) ∨
    (∃ i x, fidx (keyB r.gate r.seq) b.rs = none ∧ fidx (opR r) b.ps = some i ∧ b.ps[i]? = some x ∧ opR r x = true ∧ b.rs.length < 2000 ∧ entB b r = ⟨b.ps, b.po, b.rs ++ [⟨(i : Int) + 1, r⟩]⟩)) := by
  have he0 := he
  unfold entE at he
  by_cases h1 : rideP r
  · rw [if_neg (Decidable.not_not.2 h1)] at he
    refine ⟨h1, ?_⟩
    cases hi : fidx (keyB r.gate r.seq) b.rs with
    | some i =>
      obtain ⟨c, hc, _, _⟩ := fidx_some hi
      rw [hi] at he
      dsimp only at he
      rw [at_of hc] at he
      by_cases h2 : c.r = r
      · exact .inl ⟨i, c, rfl, hc, h2, by unfold entB; rw [he0, if_neg (by decide), hi]⟩
      · rw [if_pos h2] at he; cases he
    | none =>
      rw [hi] at he
      dsimp only at he
      cases hj : fidx (opR r) b.ps with
      | none => rw [hj] at he; cases he
      | some i =>
        obtain ⟨x, hx, hp, _⟩ := fidx_some hj
        rw [hj] at he
        dsimp only at he
        by_cases h3 : 2000 ≤ b.rs.length
        · rw [if_pos h3] at he; cases he
        · have hn : entN b r = (i : Int) + 1 := by unfold entN; rw [he0, if_neg (by decide), hi, hj]
          exact .inr ⟨i, x, rfl, rfl, hx, hp, by omega, by unfold entB; rw [he0, if_neg (by decide), hi, hn]⟩
  · rw [if_pos h1] at he; cases he
theorem RB.enter {b : Bk} (h : RB b) {r : Ride} (he : entE b r = 0) : RB (entB b r) := by
  obtain ⟨hr, ⟨i, c, hi, hc, hcr, hb⟩ | ⟨i, x, hi, hj, hx, hp, h2, hb⟩⟩ := ent_cases he
  · rw [hb]; exact h
  · rw [hb]
    obtain ⟨hcl, htm⟩ := opR_spec hp
    have hil := (List.getElem?_eq_some_iff.1 hx).1
    refine ⟨h.p64, ?_, h.pers, h.led, cnt_iff.2 fun k y hy => ?_⟩
    · show (b.rs ++ [_]).length ≤ 2000
      rw [List.length_append]
      simp only [List.length_cons, List.length_nil]
      omega
    · replace hy : (b.rs ++ [Cnt.mk ((i : Int) + 1) r])[k]? = some y := hy
      by_cases hk : k < b.rs.length
      · rw [List.getElem?_append_left hk] at hy
        have hcp := h.cntp hy
        exact ⟨hcp.lo, hcp.hi, hcp.ride, hcp.ends, by show ((b.rs ++ [Cnt.mk ((i : Int) + 1) r]).take k).any _ = false; rw [List.take_append_of_le_length (by omega)]; exact hcp.new⟩
      · have hkl := (List.getElem?_eq_some_iff.1 hy).1
        rw [List.length_append] at hkl
        simp only [List.length_cons, List.length_nil] at hkl
        have hkn : k = b.rs.length := by omega
        subst hkn
        rw [List.getElem?_append_right (Nat.le_refl _), Nat.sub_self] at hy
        cases hy
        refine ⟨by dsimp only; omega, by dsimp only; omega, hr, fun z hz => ?_, ?_⟩
        · have e : (((i : Int) + 1) - 1).toNat = i := by omega
          replace hz : b.ps[(((i : Int) + 1) - 1).toNat]? = some z := hz
          rw [e, hx] at hz
          cases hz
          exact htm
        · show ((b.rs ++ [Cnt.mk ((i : Int) + 1) r]).take b.rs.length).any _ = false
          rw [List.take_left' rfl]
          exact any_no (fidx_no hi)
theorem postF_led {po : List Pst} {p : Pst} (h : (postF po p).2 = 0) : ledR po = 0 ∧ ledR (addF po p) = 0 ∧ (postF po p).1 = addF po p := by
  unfold postF at h ⊢
  by_cases h1 : ledR po ≠ 0
  · rw [if_pos h1] at h; exact absurd h h1
  rw [if_neg h1] at h ⊢
  by_cases h2 : ledR (addF po p) ≠ 0
  · rw [if_pos h2] at h; exact absurd h h2
  rw [if_neg h2]
  exact ⟨Decidable.not_not.1 h1, Decidable.not_not.1 h2, rfl⟩
theorem postAll_cons {n : Int} {i : Nat} {t : Tfer} {r : List Tfer} {po : List Pst} (h : (postAll n i (t :: r) po).2 = 0) : (postF po (refP n i t)).2 = 0 ∧ postAll n i (t :: r) po = postAll n (i + 1) r (postF po (refP n i t)).1 := by
  by_cases hq : (postF po (refP n i t)).2 = 0
  · exact ⟨hq, postAll_go hq⟩
  · rw [postAll_bad hq] at h; exact absurd h hq
theorem postAll_led {n : Int} : ∀ (T : List Tfer) (i : Nat) (po : List Pst), ledR po = 0 → (postAll n i T po).2 = 0 → ledR (postAll n i T po).1 = 0
  | [], _, _, h, _ => h
  | t :: r, i, po, _, h2 => by
    obtain ⟨q1, q2⟩ := postAll_cons h2
    rw [q2] at h2 ⊢
    obtain ⟨_, q4, q5⟩ := postF_led q1
    exact postAll_led r (i + 1) _ (by rw [q5]; exact q4) h2
/-- What Close does when it goes well. -/
structure ClsP (b : Bk) (n : Int) (due rec : List Share) (x : Per) : Prop where
  lo : 1 ≤ n
  hi : n ≤ (b.ps.length : Int)
  at' : b.ps[(n - 1).toNat]? = some x
  first : fidx opB b.ps = some (n - 1).toNat
  a1 : accB due = true
  a2 : accB rec = true
  sum : sumA due = sumA rec
  ok : (postAll n 0 (cloT due rec) b.po).2 = 0
  res : clsB b n due rec = ⟨b.ps.set (n - 1).toNat (shut x due), (postAll n 0 (cloT due rec) b.po).1, b.rs⟩
theorem cls_cases {b : Bk} (h : RB b) {n : Int} {due rec : List Share} (he : clsE b n due rec = 0) : ∃ x, ClsP b n due rec x := by
  have he0 := he
  unfold clsE at he
  by_cases h1 : n < 1 ∨ (b.ps.length : Int) < n
  · rw [if_pos h1] at he; cases he
  rw [if_neg h1] at he
  by_cases h2 : n ≠ firstC b.ps
  · rw [if_pos h2] at he; cases he
  rw [if_neg h2] at he
  by_cases h3 : accB due = false ∨ accB rec = false ∨ sumA due ≠ sumA rec
  · rw [if_pos h3] at he; cases he
  rw [if_neg h3] at he
  obtain ⟨x, hx⟩ := getElem_some (show (n - 1).toNat < b.ps.length by omega)
  have hf : n = firstN b.ps := (Decidable.not_not.1 h2).trans (first_eq h.pers)
  have hfi : fidx opB b.ps = some (n - 1).toNat := by
    unfold firstN at hf
    cases hfi : fidx opB b.ps with
    | none => rw [hfi] at hf; dsimp only at hf; omega
    | some i => rw [hfi] at hf; dsimp only at hf; congr 1; omega
  refine ⟨x, by omega, by omega, hx, hfi, ?_, ?_, ?_, he, ?_⟩
  · cases hh : accB due with
    | true => rfl
    | false => exact absurd (.inl hh) h3
  · cases hh : accB rec with
    | true => rfl
    | false => exact absurd (.inr (.inl hh)) h3
  · exact Decidable.not_not.1 fun hh => h3 (.inr (.inr hh))
  · unfold clsB
    rw [he0, if_neg (by decide), at_of hx]
theorem endOf_set {l : List Per} {i : Nat} {x y : Per} (hx : l[i]? = some x) (hy : y.to = x.to) (k : Nat) : endOf ((l.set i y).take k) = endOf (l.take k) := by
  unfold endOf
  rw [List.getLast?_eq_getElem?, List.getLast?_eq_getElem?]
  have hl : ((l.set i y).take k).length = (l.take k).length := by rw [List.length_take, List.length_take, List.length_set]
  rw [hl]
  by_cases hj : (l.take k).length - 1 < k
  · rw [List.getElem?_take_of_lt hj, List.getElem?_take_of_lt hj]
    by_cases e : i = (l.take k).length - 1
    · rw [← e, List.getElem?_set_self (List.getElem?_eq_some_iff.1 hx).1, hx]
      exact hy
    · rw [List.getElem?_set_ne e]
  · rw [List.getElem?_take_eq_none (by omega), List.getElem?_take_eq_none (by omega)]
theorem RB.close {b : Bk} (h : RB b) {n : Int} {due rec : List Share} {x : Per} (hc : ClsP b n due rec x) : RB (clsB b n due rec) := by
  rw [hc.res]
  have hx := hc.at'
  have hpx := h.per hx
  obtain ⟨x', hx', hop, hno⟩ := fidx_some hc.first
  rw [hx] at hx'; cases hx'
  generalize (n - 1).toNat = i at *
  have hil := (List.getElem?_eq_some_iff.1 hx).1
  refine ⟨?_, h.r2000, pers_iff.2 fun k y hy => ?_, postAll_led _ _ _ h.led hc.ok, cnt_iff.2 fun k y hy => ?_⟩
  · show (b.ps.set i _).length ≤ 64
    rw [List.length_set]; exact h.p64
  · replace hy : (b.ps.set i (shut x due))[k]? = some y := hy
    show PerP (b.ps.set i (shut x due)) k y
    have hend := endOf_set hx (y := shut x due) rfl k
    by_cases e : i = k
    · subst e
      rw [List.getElem?_set_self hil] at hy
      cases hy
      refine ⟨hpx.num, hpx.fr.trans hend.symm, hpx.lt, hpx.le, fun _ => ?_, fun hcl => (by cases hcl), hc.a1⟩
      rw [List.take_set_of_le (Nat.le_refl _)]
      exact any_no hno
    · rw [List.getElem?_set_ne e] at hy
      have hpy := h.per hy
      refine ⟨hpy.num, hpy.fr.trans hend.symm, hpy.lt, hpy.le, fun hcl => ?_, hpy.emp, hpy.acc⟩
      have h0 := hpy.ord hcl
      by_cases hik : i < k
      · exact absurd hop (List.any_eq_false.1 h0 x (List.mem_of_getElem? (i := i) (by rw [List.getElem?_take_of_lt hik]; exact hx)))
      · rw [List.take_set_of_le (by omega)]; exact h0
  · have hcy := h.cntp (k := k) (x := y) hy
    refine ⟨hcy.lo, ?_, hcy.ride, fun u hu => ?_, hcy.new⟩
    · show y.per ≤ ((b.ps.set i (shut x due)).length : Int)
      rw [List.length_set]; exact hcy.hi
    · replace hu : (b.ps.set i (shut x due))[(y.per - 1).toNat]? = some u := hu
      by_cases e : i = (y.per - 1).toNat
      · subst e
        rw [List.getElem?_set_self hil] at hu
        cases hu
        exact hcy.ends x hx
      · rw [List.getElem?_set_ne e] at hu
        exact hcy.ends u hu

end Go.Proofs.YtpkhannkbafimaaGreat
