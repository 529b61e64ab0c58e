/- The transfers of Net: as many as the least number, in order. No program in sight. -/
import Derived.Test.YtpkhannkbafimaaGreatP3
namespace Go.Proofs.YtpkhannkbafimaaGreat

def nzl (l : List Share) : List Share := l.filter fun x => decide (x.a ≠ 0)
def pickP (az : List Int) (S i : Nat) : Bool := S.testBit i && decide (mostB az (S ^^^ 2 ^ i) = mostB az S - zB az S)
def pick (az : List Int) (S : Nat) : Nat := ((List.range az.length).find? (pickP az S)).getD 0
theorem pick_of {az : List Int} {S i : Nat} (hi : i < az.length) (h : pickP az S i = true) (hn : ∀ j, j < i → pickP az S j = false) : pick az S = i := by
  unfold pick
  rw [List.find?_range_eq_some.2 ⟨h, List.mem_range.2 hi, fun j hj => by rw [hn j hj]; rfl⟩]
  rfl
theorem pick_ex {az : List Int} (hn : az.length ≤ 8) {S : Nat} (hS : S < 2 ^ az.length) (h0 : S ≠ 0) : ∃ i, i < az.length ∧ pickP az S i = true ∧ ∀ j, j < i → pickP az S j = false := by
  obtain ⟨i, h1, h2, h3⟩ := most_ex hn hS h0
  have hp : pickP az S i = true := by
    unfold pickP
    rw [h2, show mostB az (S ^^^ 2 ^ i) = mostB az S - zB az S by omega]
    simp
  have : ∀ m, (∀ j, j < m → pickP az S j = false) ∨ ∃ i, i < m ∧ pickP az S i = true ∧ ∀ j, j < i → pickP az S j = false := by
    intro m
    induction m with
    | zero => exact .inl fun j hj => by omega
    | succ m ih =>
      rcases ih with ih | ⟨i, q1, q2⟩
      · cases hm : pickP az S m with
        | true => exact .inr ⟨m, by omega, hm, ih⟩
        | false =>
          refine .inl fun j hj => ?_
          by_cases e : j = m
          · subst e; exact hm
          · exact ih j (by omega)
      · exact .inr ⟨i, by omega, q2⟩
  rcases this az.length with h | h
  · rw [h i h1] at hp; cases hp
  · exact h
structure PS where
  S : Nat
  G : List Share
  O : List Tfer
def stepN (l : List Share) (s : PS) : PS :=
  if sumB (amt l) (s.S ^^^ 2 ^ pick (amt l) s.S) = 0 then ⟨s.S ^^^ 2 ^ pick (amt l) s.S, [], s.O ++ settleG (s.G ++ (l[pick (amt l) s.S]?).toList)⟩
  else ⟨s.S ^^^ 2 ^ pick (amt l) s.S, s.G ++ (l[pick (amt l) s.S]?).toList, s.O⟩
def pathN (l : List Share) : Nat → PS → PS
  | 0, s => s
  | f + 1, s => if s.S = 0 then s else pathN l f (stepN l s)
def netO (l : List Share) : List Tfer := (pathN l 256 ⟨full l.length, [], []⟩).O

def cardTo (S : Nat) : Nat → Nat
  | 0 => 0
  | k + 1 => cardTo S k + if S.testBit k then 1 else 0
theorem cardTo_clr {S i : Nat} (hb : S.testBit i = true) : ∀ k, cardTo S k = cardTo (S ^^^ 2 ^ i) k + if i < k then 1 else 0
  | 0 => by simp [cardTo]
  | k + 1 => by
    rw [cardTo, cardTo, cardTo_clr hb k, clr_bit _ _ _ hb]
    by_cases e : i = k
    · subst e; simp [hb]
    · by_cases hlt : i < k
      · have h2 : i < k + 1 := by omega
        simp only [if_pos hlt, if_pos h2, e, decide_false, Bool.not_false, Bool.and_true]; omega
      · have h2 : ¬ i < k + 1 := by omega
        simp only [if_neg hlt, if_neg h2, e, decide_false, Bool.not_false, Bool.and_true]; omega
theorem cardTo_full (n : Nat) : ∀ k, k ≤ n → cardTo (full n) k = k
  | 0, _ => rfl
  | k + 1, h => by rw [cardTo, cardTo_full n k (by omega), full_bit]; simp; omega
theorem cardTo_zero : ∀ k, cardTo 0 k = 0
  | 0 => rfl
  | k + 1 => by rw [cardTo, cardTo_zero k]; simp
def vec (l : List Share) (v : Int) : List Int := l.map fun x => if x.o = v then x.a else 0
theorem sumTo_full (az : List Int) : ∀ k, k ≤ az.length → sumTo az (full az.length) k = (az.take k).sum
  | 0, _ => rfl
  | k + 1, h => by
    obtain ⟨x, hx⟩ := getElem_some (xs := az) (k := k) (by omega)
    rw [sumTo, sumTo_full az k (by omega), full_bit, take_snoc az k x hx, sum_snoc]
    have h1 : k < az.length := by omega
    simp [h1]
    rw [show az[k] = x from by rw [List.getElem?_eq_getElem h1] at hx; exact Option.some.inj hx]
theorem sumB_full (az : List Int) : sumB az (full az.length) = az.sum := by
  unfold sumB; rw [sumTo_full az _ (Nat.le_refl _), List.take_of_length_le (Nat.le_refl _)]
theorem vec_sum (v : Int) : ∀ l : List Share, (vec l v).sum = posAt l v
  | [] => rfl
  | x :: r => by have := vec_sum v r; simp only [vec, List.map_cons, List.sum_cons, posAt] at this ⊢; omega
theorem posAt_snoc (v : Int) (x : Share) : ∀ l, posAt (l ++ [x]) v = posAt l v + if x.o = v then x.a else 0
  | [] => by simp [posAt]
  | y :: r => by simp only [List.cons_append, posAt, posAt_snoc v x r]; omega
theorem bal_app (v : Int) (b : List Tfer) : ∀ a, bal (a ++ b) v = bal a v + bal b v
  | [] => by simp [bal]
  | y :: r => by simp only [List.cons_append, bal, bal_app v b r]; omega
/-- Positions that are not 0, of different operators, with the sum 0. -/
structure Nz (l : List Share) : Prop where
  len : l.length ≤ 8
  ok : ∀ x ∈ l, okS x
  nz : ∀ x ∈ l, x.a ≠ 0
  dis : (l.map (·.o)).Nodup
  sum : sumA l = 0
structure InvN (l : List Share) (s : PS) : Prop where
  lt : s.S < 2 ^ l.length
  okO : ∀ x ∈ s.O, okT x
  mem : ∀ x ∈ s.G, ∃ i, l[i]? = some x ∧ s.S.testBit i = false
  dis : (s.G.map (·.o)).Nodup
  sum : sumA s.G + sumB (amt l) s.S = 0
  bal : ∀ v, bal s.O v + posAt s.G v + sumB (vec l v) s.S = posAt l v
  cnt : s.O.length + s.G.length + cardTo s.S l.length + mostB (amt l) (full l.length) ≤ l.length + mostB (amt l) s.S + if s.G = [] then 0 else 1
  zero : s.G = [] ↔ sumB (amt l) s.S = 0
theorem Nz.idx {l : List Share} (h : Nz l) {i j : Nat} {x y : Share} (hi : l[i]? = some x) (hj : l[j]? = some y) (e : x.o = y.o) : i = j := by
  have e1 : (l.map (·.o))[i]? = some x.o := by rw [List.getElem?_map, hi]; rfl
  have e2 : (l.map (·.o))[j]? = some y.o := by rw [List.getElem?_map, hj]; rfl
  rw [← e] at e2
  exact (List.getElem?_inj (by simpa using (List.getElem?_eq_some_iff.1 hi).1) h.dis).1 (e1.trans e2.symm)
theorem InvN.start {l : List Share} (h : Nz l) : InvN l ⟨full l.length, [], []⟩ := by
  have hle : (amt l).length = l.length := by simp [amt]
  have hz : sumB (amt l) (full l.length) = 0 := by rw [← hle, sumB_full]; exact h.sum
  refine ⟨full_lt _, by simp, by simp, by simp, ?_, fun v => ?_, ?_, ?_⟩
  · show sumA [] + _ = 0
    rw [hz]; rfl
  · have : (vec l v).length = l.length := by simp [vec]
    show (0 : Int) + 0 + sumB (vec l v) (full l.length) = _
    rw [← this, sumB_full, vec_sum]; omega
  · show 0 + 0 + cardTo (full l.length) l.length + _ ≤ _
    rw [cardTo_full _ _ (Nat.le_refl _)]; simp
  · simp [hz]
theorem InvN.step {l : List Share} (h : Nz l) {s : PS} (hi : InvN l s) {i : Nat} {x : Share} (hx : l[i]? = some x) (hp : pickP (amt l) s.S i = true) :
    Grp (s.G ++ [x]) ∨ sumB (amt l) (s.S ^^^ 2 ^ i) ≠ 0 := by
  have hb : s.S.testBit i = true := by unfold pickP at hp; simp at hp; exact hp.1
  have hle : (amt l).length = l.length := by simp [amt]
  have hil := (List.getElem?_eq_some_iff.1 hx).1
  by_cases hz : sumB (amt l) (s.S ^^^ 2 ^ i) = 0
  · refine .inl ⟨fun y hy => ?_, ?_, ?_⟩
    · rcases List.mem_append.1 hy with hy | hy
      · obtain ⟨j, hj, _⟩ := hi.mem y hy
        exact h.ok y (List.mem_of_getElem? hj)
      · simp at hy; subst hy; exact h.ok y (List.mem_of_getElem? hx)
    · have h1 := hi.sum
      have h2 := sumB_clr (az := amt l) hb (by omega)
      have h3 : (amt l).getD i 0 = x.a := by simp [amt, hx]
      have h4 : sumA (s.G ++ [x]) = sumA s.G + x.a := by unfold sumA amt; rw [List.map_append]; exact sum_snoc _ _
      omega
    · have hsub : ∀ (G : List Share), (G.map (·.o)).Nodup → (∀ y ∈ G, ∃ j, l[j]? = some y ∧ s.S.testBit j = false) → G.length + cardTo s.S l.length ≤ l.length := by
        intro G
        have gen : ∀ (G : List Share) (T : Nat), (G.map (·.o)).Nodup → (∀ y ∈ G, ∃ j, l[j]? = some y ∧ T.testBit j = false) → G.length + cardTo T l.length ≤ l.length := by
          intro G
          induction G with
          | nil =>
            intro T _ _
            have : ∀ k, cardTo T k ≤ k := by
              intro k
              induction k with
              | zero => exact Nat.le_refl _
              | succ k ih => rw [cardTo]; split <;> omega
            simpa using this l.length
          | cons y r ih =>
            intro T hn hm
            obtain ⟨j, hj, hbj⟩ := hm y (by simp)
            have hjl := (List.getElem?_eq_some_iff.1 hj).1
            rw [List.map_cons] at hn
            obtain ⟨n1, n2⟩ := List.nodup_cons.1 hn
            have hT : (T ^^^ 2 ^ j).testBit j = true := by rw [Nat.testBit_xor, hbj, Nat.testBit_two_pow]; simp
            have := ih (T ^^^ 2 ^ j) n2 fun z hz => by
              obtain ⟨k, hk, hbk⟩ := hm z (by simp [hz])
              have hne : j ≠ k := fun e => by
                subst e
                rw [hj] at hk; cases hk
                exact n1 (List.mem_map.2 ⟨_, hz, rfl⟩)
              exact ⟨k, hk, by rw [Nat.testBit_xor, hbk, Nat.testBit_two_pow]; simp [hne]⟩
            have hc := cardTo_clr hT l.length
            rw [Nat.xor_assoc, Nat.xor_self, Nat.xor_zero, if_pos hjl] at hc
            simp only [List.length_cons]
            omega
        exact gen G s.S
      have h4 := hsub s.G hi.dis hi.mem
      have h5 := cardTo_clr hb l.length
      rw [if_pos hil] at h5
      have := h.len
      simp only [List.length_append, List.length_singleton]
      omega
  · exact .inr hz
theorem InvN.next {l : List Share} (h : Nz l) {s : PS} (hi : InvN l s) (h0 : s.S ≠ 0) : InvN l (stepN l s) ∧ (stepN l s).S < s.S := by
  have hle : (amt l).length = l.length := by simp [amt]
  have hlt := hi.lt
  have h256 := pow_le8 h.len
  obtain ⟨i, hil, hp, hpn⟩ := pick_ex (az := amt l) (by have := h.len; omega) (by rw [hle]; exact hlt) h0
  rw [hle] at hil
  have hpk := pick_of (by omega) hp hpn
  obtain ⟨x, hx⟩ := getElem_some hil
  have hb : s.S.testBit i = true := by unfold pickP at hp; simp at hp; exact hp.1
  have hm : mostB (amt l) (s.S ^^^ 2 ^ i) = mostB (amt l) s.S - zB (amt l) s.S := by unfold pickP at hp; simp at hp; exact hp.2
  have hm' := most_le (az := amt l) (by have := h.len; omega) (by rw [hle]; exact hlt) hb
  have hs := clr_lt (by omega) (by have := h.len; omega) hb
  have ha : (amt l).getD i 0 = x.a := by simp [amt, hx]
  have hsc := sumB_clr (az := amt l) hb (by omega)
  have hcc := cardTo_clr hb l.length
  rw [if_pos hil] at hcc
  have hxo : x.o ∉ s.G.map (·.o) := by
    intro hh
    obtain ⟨y, hy, e⟩ := List.mem_map.1 hh
    obtain ⟨j, hj, hbj⟩ := hi.mem y hy
    have := h.idx hj hx e
    subst this
    rw [hb] at hbj; cases hbj
  have hdis : ((s.G ++ [x]).map (·.o)).Nodup := by
    rw [List.map_append, List.nodup_append]
    exact ⟨hi.dis, by simp, fun a ha b hb => by simp at hb; subst hb; rintro rfl; exact hxo ha⟩
  have hvec : ∀ v, sumB (vec l v) s.S = sumB (vec l v) (s.S ^^^ 2 ^ i) + if x.o = v then x.a else 0 := fun v => by
    have h1 := sumB_clr (az := vec l v) hb (by simpa [vec] using hil)
    have h2 : (vec l v).getD i 0 = if x.o = v then x.a else 0 := by simp [vec, hx]
    omega
  have hsnoc : sumA (s.G ++ [x]) = sumA s.G + x.a := by unfold sumA amt; rw [List.map_append]; exact sum_snoc _ _
  have hcnt := hi.cnt
  have hsum := hi.sum
  have hz0 := hi.zero
  have hzb : zB (amt l) s.S = if s.G = [] then 1 else 0 := by
    unfold zB
    by_cases e : s.G = []
    · rw [if_pos e, if_pos (hz0.1 e)]
    · rw [if_neg e, if_neg (fun h => e (hz0.2 h))]
  have hcap := hi.step h hx hp
  unfold stepN
  rw [hpk, hx]
  simp only [Option.toList]
  split
  · rename_i hz
    have hg := hcap.resolve_right (fun h => h hz)
    obtain ⟨i1, i2, i3⟩ := settleF_spec 9 (s.G ++ [x]) hg hdis (by have := nzc_le (s.G ++ [x]); have := hg.len; omega)
    have hnz := nzc_le (s.G ++ [x])
    simp only [List.length_append, List.length_singleton] at hnz
    refine ⟨⟨by show s.S ^^^ 2 ^ i < 2 ^ l.length; omega, fun y hy => ?_, by simp, by simp, ?_, fun v => ?_, ?_, by simp [hz]⟩, hs⟩
    · rcases List.mem_append.1 hy with hy | hy
      · exact hi.okO y hy
      · exact i1 y hy
    · show sumA [] + _ = 0
      rw [hz]; rfl
    · have h1 := hi.bal v
      have h2 := hvec v
      have h3 := posAt_snoc v x s.G
      have h4 := i2 v
      show Go.Proofs.YtpkhannkbafimaaGreat.bal (s.O ++ settleF 9 (s.G ++ [x])) v + 0 + sumB (vec l v) (s.S ^^^ 2 ^ i) = posAt l v
      rw [bal_app, h4]
      omega
    · show (s.O ++ settleF 9 (s.G ++ [x])).length + 0 + cardTo (s.S ^^^ 2 ^ i) l.length + mostB (amt l) (full l.length) ≤ l.length + mostB (amt l) (s.S ^^^ 2 ^ i) + if ([] : List Share) = [] then 0 else 1
      rw [List.length_append]
      by_cases e : s.G = []
      · simp only [e, if_true, List.nil_append, List.length_nil] at hcnt hzb i3 hnz ⊢; omega
      · simp only [e, if_false, if_true] at hcnt hzb ⊢; omega
  · rename_i hz
    refine ⟨⟨by show s.S ^^^ 2 ^ i < 2 ^ l.length; omega, hi.okO, fun y hy => ?_, hdis, ?_, fun v => ?_, ?_, ?_⟩, hs⟩
    · rcases List.mem_append.1 hy with hy | hy
      · obtain ⟨j, hj, hbj⟩ := hi.mem y hy
        refine ⟨j, hj, ?_⟩
        rw [clr_bit _ _ _ hb, hbj]; rfl
      · simp at hy
        subst hy
        exact ⟨i, hx, by rw [clr_bit _ _ _ hb]; simp⟩
    · show sumA (s.G ++ [x]) + sumB (amt l) (s.S ^^^ 2 ^ i) = 0
      omega
    · have h1 := hi.bal v
      have h2 := hvec v
      have h3 := posAt_snoc v x s.G
      show Go.Proofs.YtpkhannkbafimaaGreat.bal s.O v + posAt (s.G ++ [x]) v + sumB (vec l v) (s.S ^^^ 2 ^ i) = posAt l v
      omega
    · have hne : s.G ++ [x] ≠ [] := by simp
      show s.O.length + (s.G ++ [x]).length + cardTo (s.S ^^^ 2 ^ i) l.length + mostB (amt l) (full l.length) ≤ l.length + mostB (amt l) (s.S ^^^ 2 ^ i) + if s.G ++ [x] = [] then 0 else 1
      rw [if_neg hne, List.length_append, List.length_singleton]
      by_cases e : s.G = []
      · simp only [e, if_true, List.length_nil] at hcnt hzb ⊢; omega
      · simp only [e, if_false] at hcnt hzb ⊢; omega
    · simp [hz]
theorem pathN_inv {l : List Share} (h : Nz l) : ∀ (f : Nat) (s : PS), InvN l s → s.S < f → InvN l (pathN l f s) ∧ (pathN l f s).S = 0
  | 0, s, _, hf => by omega
  | f + 1, s, hi, hf => by
    rw [pathN]
    split
    · exact ⟨hi, by assumption⟩
    · rename_i h0
      obtain ⟨h1, h2⟩ := hi.next h h0
      exact pathN_inv h f _ h1 (by omega)
theorem netO_spec {l : List Share} (h : Nz l) : (∀ x ∈ netO l, okT x) ∧ (∀ v, bal (netO l) v = posAt l v) ∧ (netO l).length + mostB (amt l) (full l.length) = l.length := by
  obtain ⟨h1, h2⟩ := pathN_inv h 256 ⟨full l.length, [], []⟩ (.start h) (by have := full_lt l.length; have := pow_le8 h.len; show full l.length < 256; omega)
  show (∀ x ∈ (pathN l 256 ⟨full l.length, [], []⟩).O, okT x) ∧ (∀ v, bal (pathN l 256 ⟨full l.length, [], []⟩).O v = posAt l v) ∧ (pathN l 256 ⟨full l.length, [], []⟩).O.length + _ = _
  generalize pathN l 256 ⟨full l.length, [], []⟩ = s at *
  obtain ⟨S, G, O⟩ := s
  dsimp only at h2 ⊢
  subst h2
  have hG : G = [] := h1.zero.2 (sumB_zero _)
  subst hG
  have hbal : ∀ v, bal O v = posAt l v := fun v => by
    have := h1.bal v
    dsimp only at this
    rw [sumB_zero] at this
    have h0 : posAt [] v = 0 := rfl
    omega
  have hc := h1.cnt
  simp only [List.length_nil, cardTo_zero, most_zero, if_true] at hc
  have := lower (t := O) (l := l) (fun x hx => ⟨(h1.okO x hx).1, (h1.okO x hx).2.1⟩) (fun x hx => (h.ok x hx).1) h.dis h.len fun v _ => hbal v
  exact ⟨h1.okO, hbal, by omega⟩
end Go.Proofs.YtpkhannkbafimaaGreat
