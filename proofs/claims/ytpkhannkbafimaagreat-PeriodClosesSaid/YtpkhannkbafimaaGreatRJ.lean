/- Periods: what right books are: plain. -/
import Derived.Test.YtpkhannkbafimaaGreatRI
namespace Go.Proofs.YtpkhannkbafimaaGreat
open Go.RowKit
structure RB (b : Bk) : Prop where
  p64 : b.ps.length ≤ 64
  r2000 : b.rs.length ≤ 2000
  pers : persE b.ps = 0
  led : ledR b.po = 0
  cnt : cntR b = 0
theorem rb_of {b : Bk} (h : rightB b = 0) : RB b := by
  unfold rightB at h
  by_cases h1 : 64 < b.ps.length ∨ 2000 < b.rs.length
  · rw [if_pos h1] at h; cases h
  rw [if_neg h1] at h
  by_cases h2 : persE b.ps ≠ 0
  · rw [if_pos h2] at h; exact absurd h h2
  rw [if_neg h2] at h
  by_cases h3 : ledR b.po ≠ 0
  · rw [if_pos h3] at h; exact absurd h h3
  rw [if_neg h3] at h
  exact ⟨by omega, by omega, Decidable.not_not.1 h2, Decidable.not_not.1 h3, h⟩
theorem RB.right {b : Bk} (h : RB b) : rightB b = 0 := by
  unfold rightB
  rw [if_neg (by have := h.p64; have := h.r2000; omega), if_neg (by rw [h.pers]; decide), if_neg (by rw [h.led]; decide)]
  exact h.cnt
theorem led_len {l : List Pst} (h : ledR l = 0) : l.length ≤ 2000 := by
  unfold ledR at h
  by_cases h1 : 2000 < l.length
  · rw [if_pos h1] at h; cases h
  · omega
/-- What is known of a period of right books. -/
structure PerP (l : List Per) (k : Nat) (x : Per) : Prop where
  num : x.num = (k : Int) + 1
  fr : x.fr = endOf (l.take k)
  lt : x.fr < x.to
  le : x.to ≤ 20000000
  ord : x.cl = true → (l.take k).any opB = false
  emp : x.cl = false → x.sh.length = 0
  acc : accB x.sh = true
theorem perE_iff {l : List Per} {k : Nat} {x : Per} (hx : l[k]? = some x) : perE l k = 0 ↔ PerP l k x := by
  unfold perE
  rw [at_of hx]
  by_cases c1 : x.num ≠ (k : Int) + 1 ∨ x.fr ≠ endOf (l.take k) ∨ x.to ≤ x.fr ∨ 20000000 < x.to
  · rw [if_pos c1]
    refine ⟨fun h => (by cases h), fun h => ?_⟩
    rcases c1 with c | c | c | c
    · exact absurd h.num c
    · exact absurd h.fr c
    · have := h.lt; omega
    · have := h.le; omega
  rw [if_neg c1]
  by_cases c2 : (x.cl = true ∧ (l.take k).any opB = true) ∨ (x.cl = false ∧ 0 < x.sh.length)
  · rw [if_pos c2]
    refine ⟨fun h => (by cases h), fun h => ?_⟩
    rcases c2 with ⟨c, d⟩ | ⟨c, d⟩
    · rw [h.ord c] at d; cases d
    · have := h.emp c; omega
  rw [if_neg c2]
  by_cases c3 : accB x.sh = false
  · rw [if_pos c3]
    refine ⟨fun h => (by cases h), fun h => ?_⟩
    rw [h.acc] at c3; cases c3
  rw [if_neg c3]
  refine ⟨fun _ => ⟨?_, ?_, ?_, ?_, fun hc => ?_, fun hc => ?_, by simpa using c3⟩, fun _ => rfl⟩
  · exact Decidable.not_not.1 fun c => c1 (.inl c)
  · exact Decidable.not_not.1 fun c => c1 (.inr (.inl c))
  · exact Int.not_le.1 fun c => c1 (.inr (.inr (.inl c)))
  · exact Int.not_lt.1 fun c => c1 (.inr (.inr (.inr c)))
  · cases h : (l.take k).any opB with
    | false => rfl
    | true => exact absurd (.inl ⟨hc, h⟩) c2
  · exact Nat.eq_zero_of_not_pos fun c => c2 (.inr ⟨hc, c⟩)
theorem fe_zero {f : Nat → Int} : ∀ {n : Nat}, (∀ k, k < n → f k = 0) → fe f n = 0
  | 0, _ => rfl
  | n + 1, h => fe_go (fe_zero fun k hk => h k (by omega)) (h n (by omega))
theorem pers_iff {l : List Per} : persE l = 0 ↔ ∀ k x, l[k]? = some x → PerP l k x := by
  refine ⟨fun h k x hx => (perE_iff hx).1 (fe_all h k (List.getElem?_eq_some_iff.1 hx).1), fun h => fe_zero fun k hk => ?_⟩
  obtain ⟨x, hx⟩ := getElem_some hk
  exact (perE_iff hx).2 (h k x hx)
/-- What is known of a counted ride of right books. -/
structure CntP (b : Bk) (k : Nat) (x : Cnt) : Prop where
  lo : 1 ≤ x.per
  hi : x.per ≤ (b.ps.length : Int)
  ride : rideP x.r
  ends : ∀ y, b.ps[(x.per - 1).toNat]? = some y → x.r.time < y.to
  new : (b.rs.take k).any (keyB x.r.gate x.r.seq) = false
theorem cntE_iff {b : Bk} {k : Nat} {x : Cnt} (hx : b.rs[k]? = some x) : cntE b k = 0 ↔ CntP b k x := by
  unfold cntE
  rw [at_of hx]
  by_cases c1 : x.per < 1 ∨ (b.ps.length : Int) < x.per
  · rw [if_pos c1]
    exact ⟨fun h => (by cases h), fun h => (by have := h.lo; have := h.hi; omega)⟩
  rw [if_neg c1]
  obtain ⟨y, hy⟩ := getElem_some (show (x.per - 1).toNat < b.ps.length by omega)
  by_cases c2 : rideP x.r
  · rw [if_neg (Decidable.not_not.2 c2), at_of hy]
    by_cases c3 : y.to ≤ x.r.time
    · rw [if_pos c3]
      exact ⟨fun h => (by cases h), fun h => (by have := h.ends y hy; omega)⟩
    rw [if_neg c3]
    by_cases c4 : (b.rs.take k).any (keyB x.r.gate x.r.seq) = true
    · rw [if_pos c4]
      exact ⟨fun h => (by cases h), fun h => (by have := h.new; rw [c4] at this; cases this)⟩
    rw [if_neg c4]
    refine ⟨fun _ => ⟨by omega, by omega, c2, fun z hz => ?_, by simpa using c4⟩, fun _ => rfl⟩
    rw [hy] at hz; cases hz; omega
  · rw [if_pos c2]
    exact ⟨fun h => (by cases h), fun h => absurd h.ride c2⟩
theorem cnt_iff {b : Bk} : cntR b = 0 ↔ ∀ k x, b.rs[k]? = some x → CntP b k x := by
  refine ⟨fun h k x hx => (cntE_iff hx).1 (fe_all h k (List.getElem?_eq_some_iff.1 hx).1), fun h => fe_zero fun k hk => ?_⟩
  obtain ⟨x, hx⟩ := getElem_some hk
  exact (cntE_iff hx).2 (h k x hx)
theorem RB.per {b : Bk} (h : RB b) {k : Nat} {x : Per} (hx : b.ps[k]? = some x) : PerP b.ps k x := pers_iff.1 h.pers k x hx
theorem RB.cntp {b : Bk} (h : RB b) {k : Nat} {x : Cnt} (hx : b.rs[k]? = some x) : CntP b k x := cnt_iff.1 h.cnt k x hx
theorem RB.sh8 {b : Bk} (h : RB b) : ∀ p ∈ b.ps, p.sh.length ≤ 8 := fun p hp => by
  obtain ⟨k, hk⟩ := List.mem_iff_getElem?.1 hp
  exact acc_len (h.per hk).acc
theorem RB.sm {b : Bk} (h : RB b) : smB b := ⟨⟨by have := h.p64; omega, by have := led_len h.led; omega, by have := h.r2000; omega⟩, fun p hp => by have := h.sh8 p hp; omega⟩
theorem RB.ok {b : Bk} (h : RB b) : okB b := okB_sm h.sm
theorem nodup_of {l : List Cnt} (h : ∀ k x, l[k]? = some x → (l.take k).any (keyB x.r.gate x.r.seq) = false) : (l.map keyC).Nodup := by
  rw [List.Nodup, List.pairwise_iff_getElem]
  intro i j hi hj hij e
  rw [List.getElem_map, List.getElem_map] at e
  rw [List.length_map] at hi hj
  have := h j l[j] (List.getElem?_eq_getElem hj)
  have hm : l[i] ∈ l.take j := List.mem_of_getElem? (i := i) (by rw [List.getElem?_take_of_lt hij]; exact List.getElem?_eq_getElem hi)
  have hn := List.any_eq_false.1 this _ hm
  rw [keyB_key] at hn
  exact hn (decide_eq_true e.symm)
theorem RB.keys {b : Bk} (h : RB b) : (b.rs.map keyC).Nodup := nodup_of fun _ _ hx => (h.cntp hx).new
theorem RB.rid {b : Bk} (h : RB b) : ridP b := ⟨h.keys, by have := h.r2000; omega⟩
theorem RB.cls {b : Bk} (h : RB b) {due rec : List Share} (h1 : due.length ≤ 9223372036854775807) (h2 : rec.length ≤ 9223372036854775807) : clsP b due rec := ⟨⟨h.sm, by have := led_len h.led; omega⟩, h1, h2⟩
theorem first_eq {l : List Per} (h : persE l = 0) : firstC l = firstN l := by
  unfold firstC firstN
  cases hf : fidx opB l with
  | none => rfl
  | some i =>
    obtain ⟨x, hx, _, _⟩ := fidx_some hf
    show (at_ l per0 i).num = _
    rw [at_of hx]
    exact (pers_iff.1 h i x hx).num
theorem okB0 : okB bk0 := okB_sm s0
end Go.Proofs.YtpkhannkbafimaaGreat
