/- Transfers that settle positions: no fewer than the positions less the groups. No program in sight. -/
import Derived.Test.YtpkhannkbafimaaGreatP1
namespace Go.Proofs.YtpkhannkbafimaaGreat

def posAt : List Share → Int → Int
  | [], _ => 0
  | x :: r, v => (if x.o = v then x.a else 0) + posAt r v
def bal : List Tfer → Int → Int
  | [], _ => 0
  | x :: r, v => ((if x.t = v then x.a else 0) - (if x.f = v then x.a else 0)) + bal r v
def okO (n : Int) : Prop := 1 ≤ n ∧ n ≤ 8
instance (n : Int) : Decidable (okO n) := by unfold okO; infer_instance
def opsL : List Int := [1, 2, 3, 4, 5, 6, 7, 8]
theorem mem_ops {v : Int} : v ∈ opsL ↔ okO v := by
  unfold opsL okO
  simp
  omega
def col : List Tfer → Int → Int
  | [], v => v
  | x :: r, v => if col r v = col r x.f then col r x.t else col r v
theorem col_edge : ∀ {t : List Tfer} {x : Tfer}, x ∈ t → col t x.f = col t x.t
  | [], x, h => by simp at h
  | y :: r, x, h => by
    rcases List.mem_cons.1 h with rfl | h
    · simp [col]
    · have := col_edge h
      simp [col, this]

/-- A sum over the operators of a class. -/
def csum (c : Int → Int) (q : Int) (f : Int → Int) : List Int → Int
  | [] => 0
  | v :: r => (if c v = q then f v else 0) + csum c q f r
theorem csum_add (c : Int → Int) (q : Int) (f g : Int → Int) : ∀ L, csum c q (fun v => f v + g v) L = csum c q f L + csum c q g L
  | [] => rfl
  | v :: r => by
    simp only [csum, csum_add c q f g r]
    split <;> omega
theorem csum_sub (c : Int → Int) (q : Int) (f g : Int → Int) : ∀ L, csum c q (fun v => f v - g v) L = csum c q f L - csum c q g L
  | [] => rfl
  | v :: r => by
    simp only [csum, csum_sub c q f g r]
    split <;> omega
theorem csum_none (c : Int → Int) (q u a : Int) : ∀ L, u ∉ L → csum c q (fun v => if u = v then a else 0) L = 0
  | [], _ => rfl
  | v :: r, h => by
    simp only [List.mem_cons, not_or] at h
    rw [csum, csum_none c q u a r h.2, if_neg h.1]
    simp
theorem csum_one (c : Int → Int) (q u a : Int) : ∀ L, L.Nodup → u ∈ L → csum c q (fun v => if u = v then a else 0) L = if c u = q then a else 0
  | [], _, h => by simp at h
  | v :: r, hn, h => by
    obtain ⟨h1, h2⟩ := List.nodup_cons.1 hn
    rw [csum]
    rcases List.mem_cons.1 h with rfl | h
    · rw [csum_none c q u a r h1, if_pos rfl]; omega
    · rw [csum_one c q u a r h2 h, if_neg (fun e : u = v => h1 (by rw [← e]; exact h))]
      simp
theorem ops_nodup : opsL.Nodup := by decide
theorem csum_zero (c : Int → Int) (q : Int) : ∀ L, csum c q (fun _ => 0) L = 0
  | [] => rfl
  | v :: r => by rw [csum, csum_zero c q r]; simp
theorem csum_bal {c : Int → Int} (q : Int) : ∀ {t : List Tfer}, (∀ x ∈ t, okO x.f ∧ okO x.t) → (∀ x ∈ t, c x.f = c x.t) → csum c q (bal t) opsL = 0
  | [], _, _ => csum_zero c q opsL
  | x :: r, h1, h2 => by
    have e : bal (x :: r) = fun v => ((if x.t = v then x.a else 0) - (if x.f = v then x.a else 0)) + bal r v := rfl
    obtain ⟨o1, o2⟩ := h1 x (by simp)
    rw [e, csum_add, csum_sub, csum_bal q (fun y hy => h1 y (by simp [hy])) (fun y hy => h2 y (by simp [hy])), csum_one _ _ _ _ _ ops_nodup (mem_ops.2 o2), csum_one _ _ _ _ _ ops_nodup (mem_ops.2 o1), h2 x (by simp)]
    omega
def selS (p : Share → Bool) : List Share → Int
  | [] => 0
  | x :: r => (if p x then x.a else 0) + selS p r
theorem csum_pos {c : Int → Int} (q : Int) : ∀ {l : List Share}, (∀ x ∈ l, okO x.o) → csum c q (posAt l) opsL = selS (fun x => decide (c x.o = q)) l
  | [], _ => csum_zero c q opsL
  | x :: r, h => by
    have e : posAt (x :: r) = fun v => (if x.o = v then x.a else 0) + posAt r v := rfl
    rw [e, csum_add, csum_pos q (fun y hy => h y (by simp [hy])), csum_one _ _ _ _ _ ops_nodup (mem_ops.2 (h x (by simp)))]
    simp [selS]
theorem csum_congr {c : Int → Int} {q : Int} {f g : Int → Int} : ∀ {L : List Int}, (∀ v ∈ L, f v = g v) → csum c q f L = csum c q g L
  | [], _ => rfl
  | v :: r, h => by rw [csum, csum, h v (by simp), csum_congr fun w hw => h w (by simp [hw])]
def Settles (t : List Tfer) (l : List Share) : Prop := ∀ v, okO v → bal t v = posAt l v
theorem class_zero {t : List Tfer} {l : List Share} (ht : ∀ x ∈ t, okO x.f ∧ okO x.t) (hl : ∀ x ∈ l, okO x.o) (hs : Settles t l) (q : Int) : selS (fun x => decide (col t x.o = q)) l = 0 := by
  rw [← csum_pos q hl, ← csum_congr (f := bal t) (fun v hv => hs v (mem_ops.1 hv))]
  exact csum_bal q ht fun x hx => col_edge hx
theorem selS_or {p q : Share → Bool} : ∀ {l : List Share}, (∀ x, ¬ (p x = true ∧ q x = true)) → selS (fun x => p x || q x) l = selS p l + selS q l
  | [], _ => rfl
  | x :: r, h => by
    have hx := h x
    rw [selS, selS, selS, selS_or (l := r) h]
    by_cases hp : p x = true
    · by_cases hq : q x = true
      · exact absurd ⟨hp, hq⟩ hx
      · simp [hp, hq]; omega
    · by_cases hq : q x = true
      · simp [hp, hq]; omega
      · simp [hp, hq]
theorem classes_zero {t : List Tfer} {l : List Share} (ht : ∀ x ∈ t, okO x.f ∧ okO x.t) (hl : ∀ x ∈ l, okO x.o) (hs : Settles t l) : ∀ {qs : List Int}, qs.Nodup → selS (fun x => decide (col t x.o ∈ qs)) l = 0
  | [], _ => by
    have : ∀ l : List Share, selS (fun x => decide (col t x.o ∈ ([] : List Int))) l = 0 := by
      intro l
      induction l with
      | nil => rfl
      | cons x r ih => rw [selS, ih]; simp
    exact this l
  | q :: r, hn => by
    obtain ⟨h1, h2⟩ := List.nodup_cons.1 hn
    have e : (fun x : Share => decide (col t x.o ∈ q :: r)) = fun x => decide (col t x.o = q) || decide (col t x.o ∈ r) := by
      funext x; simp [List.mem_cons]
    rw [e, selS_or (fun x ⟨a, b⟩ => by simp at a b; rw [a] at b; exact h1 b), class_zero ht hl hs q, classes_zero ht hl hs h2]
    rfl
def pIdx (p : Share → Bool) (l : List Share) (i : Nat) : Bool := match l[i]? with
  | some x => p x
  | none => false
theorem selS_snoc (p : Share → Bool) (x : Share) : ∀ l, selS p (l ++ [x]) = selS p l + if p x then x.a else 0
  | [] => by simp [selS]
  | y :: r => by simp only [List.cons_append, selS, selS_snoc p x r]; omega
theorem sum_mask (p : Share → Bool) (l : List Share) : ∀ k, k ≤ l.length → sumTo (amt l) (maskOf (pIdx p l) l.length) k = selS p (l.take k)
  | 0, _ => by simp [sumTo, selS]
  | k + 1, h => by
    obtain ⟨x, hx⟩ := getElem_some (xs := l) (k := k) (by omega)
    rw [sumTo, sum_mask p l k (by omega), take_snoc l k x hx, selS_snoc, mask_bit]
    have h1 : (amt l).getD k 0 = x.a := by simp [amt, hx]
    have h2 : pIdx p l k = p x := by simp [pIdx, hx]
    rw [h1, h2, show decide (k < l.length) = true by simp; omega]
    simp
theorem sumB_mask (p : Share → Bool) (l : List Share) : sumB (amt l) (maskOf (pIdx p l) l.length) = selS p l := by
  unfold sumB
  rw [show (amt l).length = l.length by simp [amt], sum_mask p l l.length (Nat.le_refl _), List.take_of_length_le (Nat.le_refl _)]
theorem chain {t : List Tfer} {l : List Share} (ht : ∀ x ∈ t, okO x.f ∧ okO x.t) (hl : ∀ x ∈ l, okO x.o) (hs : Settles t l) (h8 : l.length ≤ 8) :
    ∀ {qs : List Int}, qs.Nodup → (∀ q ∈ qs, ∃ x ∈ l, col t x.o = q) → qs.length ≤ mostB (amt l) (maskOf (pIdx (fun x => decide (col t x.o ∈ qs)) l) l.length)
  | [], _, _ => Nat.zero_le _
  | q :: r, hn, hh => by
    obtain ⟨h1, h2⟩ := List.nodup_cons.1 hn
    have ih := chain ht hl hs h8 h2 fun q' hq' => hh q' (by simp [hq'])
    obtain ⟨x, hx, hxq⟩ := hh q (by simp)
    obtain ⟨i, hi⟩ := List.getElem?_of_mem hx
    have hlt := (List.getElem?_eq_some_iff.1 hi).1
    have hle : (amt l).length = l.length := by simp [amt]
    have := most_more (az := amt l) (by rw [hle]; exact h8) (S := maskOf (pIdx (fun x => decide (col t x.o ∈ q :: r)) l) l.length) (T := maskOf (pIdx (fun x => decide (col t x.o ∈ r)) l) l.length)
      (by rw [hle]; exact mask_lt _ _) (fun j hj => by
        rw [mask_bit] at hj ⊢
        simp only [Bool.and_eq_true] at hj ⊢
        refine ⟨hj.1, ?_⟩
        have := hj.2
        unfold pIdx at this ⊢
        split at this
        · simp at this ⊢; exact .inr this
        · cases this) (fun e => by
        have h3 := mask_bit (pIdx (fun x => decide (col t x.o ∈ r)) l) l.length i
        have h4 := mask_bit (pIdx (fun x => decide (col t x.o ∈ q :: r)) l) l.length i
        rw [e, h4] at h3
        simp only [pIdx, hi, hxq, hlt, decide_true, Bool.true_and, List.mem_cons, true_or] at h3
        exact h1 (by simpa using h3.symm)) (by rw [sumB_mask, classes_zero ht hl hs hn])
    simp only [List.length_cons]
    omega
theorem filter_len (q : Int) : ∀ {qs : List Int}, qs.Nodup → qs.length ≤ (qs.filter (fun x => decide (x ≠ q))).length + 1
  | [], _ => by simp
  | y :: r, hn => by
    obtain ⟨h1, h2⟩ := List.nodup_cons.1 hn
    by_cases e : y = q
    · subst e
      have : r.filter (fun x => decide (x ≠ y)) = r := List.filter_eq_self.2 fun x hx => by simp; rintro rfl; exact h1 hx
      simp only [List.filter_cons, ne_eq, not_true_eq_false, decide_false, Bool.false_eq_true, if_false]
      rw [show (fun x => decide (¬ x = y)) = fun x => decide (x ≠ y) from rfl, this]
      simp
    · have := filter_len q h2
      simp only [List.filter_cons, ne_eq, e, not_false_eq_true, decide_true, if_true, List.length_cons]
      simp only [ne_eq] at this
      omega
theorem colors {l : List Share} (hd : (l.map (·.o)).Nodup) : ∀ t : List Tfer, ∃ qs : List Int, qs.Nodup ∧ l.length ≤ qs.length + t.length ∧ ∀ q ∈ qs, ∃ x ∈ l, col t x.o = q
  | [] => ⟨l.map (·.o), hd, by simp, fun q hq => by
      obtain ⟨x, hx, rfl⟩ := List.mem_map.1 hq
      exact ⟨x, hx, rfl⟩⟩
  | x :: r => by
    obtain ⟨qs, h1, h2, h3⟩ := colors hd r
    refine ⟨qs.filter (fun y => decide (y ≠ col r x.f)), h1.filter _, ?_, fun q hq => ?_⟩
    · have := filter_len (col r x.f) h1
      simp only [List.length_cons]
      omega
    · obtain ⟨h4, h5⟩ := List.mem_filter.1 hq
      obtain ⟨y, hy, hyq⟩ := h3 q h4
      simp at h5
      exact ⟨y, hy, by rw [col, hyq, if_neg h5]⟩
def full (n : Nat) : Nat := 2 ^ n - 1
theorem full_bit (n i : Nat) : (full n).testBit i = decide (i < n) := Nat.testBit_two_pow_sub_one n i
theorem full_lt (n : Nat) : full n < 2 ^ n := by unfold full; have := Nat.two_pow_pos n; omega
/-- No fewer transfers settle the positions. -/
theorem lower {t : List Tfer} {l : List Share} (ht : ∀ x ∈ t, okO x.f ∧ okO x.t) (hl : ∀ x ∈ l, okO x.o) (hd : (l.map (·.o)).Nodup) (h8 : l.length ≤ 8) (hs : Settles t l) : l.length ≤ t.length + mostB (amt l) (full l.length) := by
  obtain ⟨qs, h1, h2, h3⟩ := colors hd t
  have h4 := chain ht hl hs h8 h1 h3
  have hle : (amt l).length = l.length := by simp [amt]
  have h5 := most_mono (az := amt l) (by rw [hle]; exact h8) (full l.length) (maskOf (pIdx (fun x => decide (col t x.o ∈ qs)) l) l.length) (by rw [hle]; exact full_lt _) (fun j hj => by
    rw [mask_bit] at hj
    simp only [Bool.and_eq_true] at hj
    rw [full_bit]; exact hj.1)
  omega
end Go.Proofs.YtpkhannkbafimaaGreat
