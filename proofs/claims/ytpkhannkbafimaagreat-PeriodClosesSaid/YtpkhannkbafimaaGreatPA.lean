/- The path of Net, step by step. No program in sight. -/
import Derived.Test.YtpkhannkbafimaaGreatP9
namespace Go.Proofs.YtpkhannkbafimaaGreat

theorem pathN_fuel {l : List Share} (h : Nz l) : ∀ (f g : Nat) (s : PS), InvN l s → s.S < f → s.S < g → pathN l f s = pathN l g s
  | 0, _, s, _, hf, _ => by omega
  | f + 1, 0, s, _, _, hg => by omega
  | f + 1, g + 1, s, hi, hf, hg => by
    rw [pathN, pathN]
    split
    · rfl
    · rename_i h0
      obtain ⟨h1, h2⟩ := hi.next h h0
      exact pathN_fuel h f g _ h1 (by omega) (by omega)
/-- What holds at the head of Net's loop. -/
structure NetI (l : List Share) (s : PS) : Prop where
  inv : InvN l s
  path : (pathN l 256 s).O = netO l
theorem NetI.start {l : List Share} (h : Nz l) : NetI l ⟨full l.length, [], []⟩ := ⟨.start h, rfl⟩
theorem NetI.next {l : List Share} (h : Nz l) {s : PS} (hi : NetI l s) (h0 : s.S ≠ 0) : NetI l (stepN l s) ∧ (stepN l s).S < s.S := by
  obtain ⟨h1, h2⟩ := hi.inv.next h h0
  have hlt := hi.inv.lt
  have h256 := pow_le8 h.len
  refine ⟨⟨h1, ?_⟩, h2⟩
  rw [← hi.path]
  rw [pathN_fuel h 256 255 _ h1 (by omega) (by omega)]
  have e : pathN l (255 + 1) s = if s.S = 0 then s else pathN l 255 (stepN l s) := rfl
  rw [if_neg h0] at e
  exact (congrArg PS.O e).symm
theorem NetI.done {l : List Share} {s : PS} (hi : NetI l s) (h0 : s.S = 0) : s.O = netO l := by
  rw [← hi.path]
  have e : pathN l (255 + 1) s = if s.S = 0 then s else pathN l 255 (stepN l s) := rfl
  rw [if_pos h0] at e
  exact (congrArg PS.O e).symm
/-- The step, its element told. -/
theorem NetI.step {l : List Share} (h : Nz l) {s : PS} (hi : NetI l s) (h0 : s.S ≠ 0) {i : Nat} {x : Share} (hx : l[i]? = some x) (hp : pickP (amt l) s.S i = true) (hn : ∀ j, j < i → pickP (amt l) s.S j = false) :
    (sumT l (s.S ^^^ 2 ^ i) = 0 → NetI l ⟨s.S ^^^ 2 ^ i, [], s.O ++ settleG (s.G ++ [x])⟩ ∧ Grp (s.G ++ [x]) ∧ ((s.G ++ [x]).map (·.o)).Nodup) ∧
    (sumT l (s.S ^^^ 2 ^ i) ≠ 0 → NetI l ⟨s.S ^^^ 2 ^ i, s.G ++ [x], s.O⟩) ∧ s.S ^^^ 2 ^ i < s.S := by
  have hil := (List.getElem?_eq_some_iff.1 hx).1
  have hpk := pick_of (by simpa [amt] using hil) hp hn
  obtain ⟨h1, h2⟩ := hi.next h h0
  unfold stepN at h1 h2
  rw [hpk, hx] at h1 h2
  simp only [Option.toList] at h1 h2
  refine ⟨fun hz => ?_, fun hz => ?_, ?_⟩
  · have hz' : sumB (amt l) (s.S ^^^ 2 ^ i) = 0 := hz
    rw [if_pos hz'] at h1
    have hb : s.S.testBit i = true := by unfold pickP at hp; simp at hp; exact hp.1
    refine ⟨h1, (hi.inv.step h hx hp).resolve_right (fun h => h hz'), ?_⟩
    rw [List.map_append, List.nodup_append]
    refine ⟨hi.inv.dis, by simp, fun a ha b hb' => ?_⟩
    simp at hb'
    subst hb'
    rintro rfl
    obtain ⟨y, hy, e⟩ := List.mem_map.1 ha
    obtain ⟨j, hj, hbj⟩ := hi.inv.mem y hy
    have := h.idx hj hx e
    subst this
    rw [hb] at hbj; cases hbj
  · have hz' : ¬ sumB (amt l) (s.S ^^^ 2 ^ i) = 0 := hz
    rw [if_neg hz'] at h1
    exact h1
  · split at h2 <;> exact h2
theorem InvN.sizes {l : List Share} (h : Nz l) {s : PS} (hi : InvN l s) : s.O.length + s.G.length ≤ 17 := by
  have h1 := hi.cnt
  have h2 := h.len
  have hle : (amt l).length = l.length := by simp [amt]
  have h3 := most_card (az := amt l) (by omega) s.S (by rw [hle]; exact hi.lt)
  have h4 := cardTo_le s.S (amt l).length
  split at h1 <;> omega
theorem pick_some {l : List Share} (h : Nz l) {S : Nat} (hS : S < 2 ^ l.length) (h0 : S ≠ 0) : ¬ ∀ j, j < l.length → pickP (amt l) S j = false := by
  intro hn
  have hle : (amt l).length = l.length := by simp [amt]
  obtain ⟨i, h1, h2, _⟩ := pick_ex (az := amt l) (by have := h.len; omega) (by rw [hle]; exact hS) h0
  rw [hn i (by omega)] at h2
  cases h2
/-- The greatest number of groups of what is left is that of the set, less the group that ends there. -/
theorem most_pos {l : List Share} (h : Nz l) {S : Nat} (hS : S < 2 ^ l.length) (h0 : S ≠ 0) : zB (amt l) S ≤ mostB (amt l) S := by
  have hle : (amt l).length = l.length := by simp [amt]
  have := most_step (az := amt l) (by have := h.len; omega) (S := S) (by have := pow_le8 h.len; omega) h0
  omega
theorem pickP_int {l : List Share} (h : Nz l) {S i : Nat} (hS : S < 2 ^ l.length) (h0 : S ≠ 0) : pickP (amt l) S i = (S.testBit i && decide (mosT l (S ^^^ 2 ^ i) = mosT l S - (zB (amt l) S : Nat))) := by
  have := most_pos h hS h0
  unfold pickP mosT
  congr 1
  exact decide_eq_decide.2 ⟨fun h => by omega, fun h => by omega⟩
/-! ### one transfer -/
theorem idxI_neg {p : Share → Bool} {g : List Share} : idxI p g < 0 ↔ firstI p g = none := by
  unfold idxI
  cases firstI p g with
  | none => simp
  | some q => obtain ⟨i, x⟩ := q; simp
theorem idxI_some {p : Share → Bool} {g : List Share} {i : Nat} {x : Share} (h : firstI p g = some (i, x)) : idxI p g = i := by unfold idxI; rw [h]
theorem settle_none {g : List Share} (h : stepS g = none) : settleG g = [] := by unfold settleG settleF; rw [h]
theorem settle_some {g g' : List Share} {t : Tfer} (hg : Grp g) (hd : (g.map (·.o)).Nodup) (h : stepS g = some (t, g')) : settleG g = t :: settleG g' := by
  obtain ⟨h1, h2, h3, _⟩ := stepS_spec hg hd h
  have hn := nzc_le g
  have hl := hg.len
  rw [← settleG_step h1 h2 (f := 8) (by omega)]
  show settleF (8 + 1) g = _
  rw [settleF, h]
def cmpT (a b : Tfer) : Int := orI [cmpI a.f b.f, cmpI a.t b.t]
theorem cmpT_lt (a b : Tfer) : cmpT a b < 0 ↔ keyLt a b := by
  unfold cmpT orI keyLt
  have h1 := cmpI_lt a.f b.f
  have h2 := cmpI_eq a.f b.f
  have h3 := cmpI_lt a.t b.t
  have h4 := cmpI_eq a.t b.t
  simp only [orI]
  split
  · split <;> omega
  · omega
end Go.Proofs.YtpkhannkbafimaaGreat
