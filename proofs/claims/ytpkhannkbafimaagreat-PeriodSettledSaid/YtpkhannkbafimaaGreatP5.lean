/- The transfers in order; bounds. No program in sight. -/
import Derived.Test.YtpkhannkbafimaaGreatP4
namespace Go.Proofs.YtpkhannkbafimaaGreat

def keyLt (a b : Tfer) : Prop := a.f < b.f ∨ a.f = b.f ∧ a.t < b.t
instance (a b : Tfer) : Decidable (keyLt a b) := by unfold keyLt; infer_instance
def keyLe (a b : Tfer) : Bool := decide (¬ keyLt b a)
def netF (l : List Share) : List Tfer := (netO (nzl l)).mergeSort keyLe
def leastF (l : List Share) : Nat := (nzl l).length - mostB (amt (nzl l)) (full (nzl l).length)
theorem key_eq {a b : Tfer} (h1 : ¬ keyLt a b) (h2 : ¬ keyLt b a) : a.f = b.f ∧ a.t = b.t := by unfold keyLt at h1 h2; omega
def wgt (x : Tfer) (v : Int) : Int := (if x.t = v then x.a else 0) - (if x.f = v then x.a else 0)
theorem bal_set {y : Tfer} (v : Int) : ∀ {g : List Tfer} {i : Nat} {x : Tfer}, g[i]? = some x → bal (g.set i y) v + wgt x v = bal g v + wgt y v
  | [], i, x, h => by simp at h
  | z :: r, 0, x, h => by simp at h; subst h; simp only [List.set_cons_zero, bal, wgt]; omega
  | z :: r, i + 1, x, h => by
    have := bal_set (y := y) v (g := r) (i := i) (x := x) (by simpa using h)
    simp only [List.set_cons_succ, bal]; omega
theorem bal_erase (v : Int) : ∀ {g : List Tfer} {i : Nat} {x : Tfer}, g[i]? = some x → bal (g.eraseIdx i) v + wgt x v = bal g v
  | [], i, x, h => by simp at h
  | z :: r, 0, x, h => by simp at h; subst h; simp only [List.eraseIdx_cons_zero, bal, wgt]; omega
  | z :: r, i + 1, x, h => by
    have := bal_erase v (g := r) (i := i) (x := x) (by simpa using h)
    simp only [List.eraseIdx_cons_succ, bal]; omega
theorem bal_perm (v : Int) {a b : List Tfer} (h : a.Perm b) : bal a v = bal b v := by
  induction h with
  | nil => rfl
  | cons x _ ih => rw [bal, bal, ih]
  | swap x y l => simp only [bal]; omega
  | trans _ _ ih1 ih2 => exact ih1.trans ih2
/-- Of the fewest transfers no two have the same ends. -/
theorem apart {l : List Share} (h : Nz l) {t : List Tfer} (ht : ∀ x ∈ t, okT x) (hb : ∀ v, bal t v = posAt l v) (hl : t.length + mostB (amt l) (full l.length) = l.length) {i j : Nat} {x y : Tfer} (hij : i < j) (hx : t[i]? = some x) (hy : t[j]? = some y) :
    ¬ (x.f = y.f ∧ x.t = y.t) := by
  rintro ⟨e1, e2⟩
  have hj := (List.getElem?_eq_some_iff.1 hy).1
  have hy' : (t.set i ⟨x.f, x.t, x.a + y.a⟩)[j]? = some y := by rw [List.getElem?_set_ne (by omega)]; exact hy
  have hlen : ((t.set i ⟨x.f, x.t, x.a + y.a⟩).eraseIdx j).length = t.length - 1 := by
    rw [List.length_eraseIdx_of_lt (by simpa using hj)]; simp
  have := lower (t := (t.set i ⟨x.f, x.t, x.a + y.a⟩).eraseIdx j) (l := l) (fun z hz => by
    rcases List.mem_or_eq_of_mem_set (List.mem_of_mem_eraseIdx hz) with hz | rfl
    · exact ⟨(ht z hz).1, (ht z hz).2.1⟩
    · exact ⟨(ht x (List.mem_of_getElem? hx)).1, (ht x (List.mem_of_getElem? hx)).2.1⟩) (fun x hx => (h.ok x hx).1) h.dis h.len (fun v _ => by
    have h1 := bal_set (y := ⟨x.f, x.t, x.a + y.a⟩) v hx
    have h2 := bal_erase v hy'
    have h3 := hb v
    have h4 : wgt ⟨x.f, x.t, x.a + y.a⟩ v = wgt x v + wgt y v := by
      unfold wgt
      dsimp only
      rw [← e1, ← e2]
      split <;> split <;> omega
    omega)
  omega
theorem nzl_nz {l : List Share} (h : RightP l) : Nz (nzl l) := by
  refine ⟨Nat.le_trans (List.length_filter_le _ _) h.len, fun x hx => h.ok x (List.mem_filter.1 hx).1, fun x hx => by have := (List.mem_filter.1 hx).2; simpa using this, ?_, ?_⟩
  · have : (nzl l).Pairwise fun a b => a.o < b.o := h.inc.filter _
    rw [List.Nodup, List.pairwise_map]
    exact this.imp fun h e => by omega
  · have : ∀ l, sumA (nzl l) = sumA l := by
      intro l
      induction l with
      | nil => rfl
      | cons x r ih =>
        have e : sumA (x :: r) = x.a + sumA r := by simp [sumA, amt]
        unfold nzl at ih ⊢
        rw [List.filter_cons]
        split
        · have e2 : ∀ l, sumA (x :: l) = x.a + sumA l := fun l => by simp [sumA, amt]
          rw [e2, ih, e]
        · rename_i hx
          have : x.a = 0 := by simpa using hx
          rw [ih, e]; omega
    rw [this]; exact h.sum
theorem posAt_nzl (v : Int) : ∀ l, posAt (nzl l) v = posAt l v
  | [] => rfl
  | x :: r => by
    have ih := posAt_nzl v r
    unfold nzl at ih ⊢
    rw [List.filter_cons]
    split
    · rw [posAt, posAt, ih]
    · rename_i hx
      have : x.a = 0 := by simpa using hx
      rw [posAt, ih, this]; simp
/-- What is known of the transfers of Net. -/
structure NetP (l : List Share) (t : List Tfer) : Prop where
  ok : ∀ x ∈ t, okT x
  bal : ∀ v, bal t v = posAt l v
  len : t.length = leastF l
  inc : t.Pairwise keyLt
theorem net_sorted {l : List Share} (h : RightP l) {t : List Tfer} (hp : t.Perm (netO (nzl l))) (hs : t.Pairwise fun a b => ¬ keyLt b a) : t = netF l ∧ NetP l t := by
  obtain ⟨h1, h2, h3⟩ := netO_spec (nzl_nz h)
  have ok : ∀ x ∈ t, okT x := fun x hx => h1 x (hp.mem_iff.1 hx)
  have hb : ∀ v, bal t v = posAt (nzl l) v := fun v => (bal_perm v hp).trans (h2 v)
  have hl : t.length + mostB (amt (nzl l)) (full (nzl l).length) = (nzl l).length := by rw [hp.length_eq]; exact h3
  have hinc : t.Pairwise keyLt := by
    rw [List.pairwise_iff_getElem] at hs ⊢
    intro i j hi hj hij
    have hn := apart (nzl_nz h) ok hb hl hij (List.getElem?_eq_getElem hi) (List.getElem?_eq_getElem hj)
    have := hs i j hi hj hij
    by_cases hk : keyLt t[i] t[j]
    · exact hk
    · exact absurd (key_eq hk this) hn
  refine ⟨?_, ok, fun v => by rw [hb v, posAt_nzl], by unfold leastF; omega, hinc⟩
  have hm : (netF l).Pairwise fun a b => keyLe a b = true := List.pairwise_mergeSort (fun a b c h1 h2 => by
    unfold keyLe keyLt at *
    simp only [decide_eq_true_eq] at *
    omega) (fun a b => by
    unfold keyLe keyLt
    simp only [Bool.or_eq_true, decide_eq_true_eq]
    omega) _
  refine List.Perm.eq_of_pairwise (le := fun a b => keyLe a b = true) (fun a b ha hb' h4 h5 => ?_) (hs.imp fun h => by unfold keyLe; simpa using h) hm (hp.trans (List.mergeSort_perm _ _).symm)
  have hbt : b ∈ t := hp.mem_iff.2 ((List.mergeSort_perm _ _).mem_iff.1 hb')
  unfold keyLe at h4 h5
  simp only [decide_eq_true_eq] at h4 h5
  obtain ⟨i, hi⟩ := List.getElem?_of_mem ha
  obtain ⟨j, hj⟩ := List.getElem?_of_mem hbt
  have hk := key_eq h5 h4
  rcases Nat.lt_trichotomy i j with e | e | e
  · exact absurd hk (apart (nzl_nz h) ok hb hl e hi hj)
  · subst e; rw [hi] at hj; exact Option.some.inj hj
  · exact absurd ⟨hk.1.symm, hk.2.symm⟩ (apart (nzl_nz h) ok hb hl e hj hi)
theorem netF_spec {l : List Share} (h : RightP l) : NetP l (netF l) := by
  have hm : (netF l).Pairwise fun a b => keyLe a b = true := List.pairwise_mergeSort (fun a b c h1 h2 => by
    unfold keyLe keyLt at *
    simp only [decide_eq_true_eq] at *
    omega) (fun a b => by
    unfold keyLe keyLt
    simp only [Bool.or_eq_true, decide_eq_true_eq]
    omega) _
  exact (net_sorted h (List.mergeSort_perm _ _) (hm.imp fun h => by unfold keyLe at h; simpa using h)).2
/-- Do transfers settle positions? -/
def okV (x : Tfer) : Prop := okO x.f ∧ okO x.t ∧ x.f ≠ x.t ∧ 1 ≤ x.a ∧ x.a ≤ 1099511627776
def ValidP (l : List Share) (t : List Tfer) : Prop := (∀ x ∈ t, okV x) ∧ ∀ v, okO v → bal t v = posAt l v
theorem least_valid {l : List Share} (h : RightP l) {t : List Tfer} (hv : ValidP l t) : leastF l ≤ t.length := by
  have hn := nzl_nz h
  have := lower (t := t) (l := nzl l) (fun x hx => ⟨(hv.1 x hx).1, (hv.1 x hx).2.1⟩) (fun x hx => (hn.ok x hx).1) hn.dis hn.len fun v hv' => by rw [posAt_nzl]; exact hv.2 v hv'
  unfold leastF
  omega
theorem NetP.valid {l : List Share} {t : List Tfer} (h : NetP l t) : ValidP l t :=
  ⟨fun x hx => by obtain ⟨a, b, c, d, e⟩ := h.ok x hx; exact ⟨a, b, c, d, by omega⟩, fun v _ => h.bal v⟩

/-! ### bounds -/
theorem sumTo_neg (az : List Int) (S : Nat) : ∀ k, sumTo (az.map (- ·)) S k = - sumTo az S k
  | 0 => rfl
  | k + 1 => by
    rw [sumTo, sumTo, sumTo_neg az S k]
    have : (az.map (- ·)).getD k 0 = - az.getD k 0 := by
      rw [List.getD_eq_getElem?_getD, List.getElem?_map, List.getD_eq_getElem?_getD]
      cases az[k]? <;> simp
    rw [this]
    split <;> omega
theorem zB_neg (az : List Int) (S : Nat) : zB (az.map (- ·)) S = zB az S := by
  unfold zB sumB
  rw [List.length_map, sumTo_neg]
  by_cases h : sumTo az S az.length = 0
  · rw [if_pos h, if_pos (by omega)]
  · rw [if_neg h, if_neg (by omega)]
theorem most_neg (az : List Int) : ∀ f S, mostF (az.map (- ·)) f S = mostF az f S
  | 0, _ => rfl
  | f + 1, S => by
    rw [mostF, mostF, zB_neg, List.length_map]
    rw [show mostF (az.map (- ·)) f = mostF az f from funext (most_neg az f)]
def back (l : List Share) : List Share := l.map fun x => ⟨x.o, -x.a⟩
theorem nzl_back : ∀ l, nzl (back l) = back (nzl l)
  | [] => rfl
  | x :: r => by
    have ih := nzl_back r
    unfold nzl back at ih ⊢
    rw [List.map_cons, List.filter_cons, List.filter_cons]
    by_cases h : x.a = 0
    · rw [if_neg (by simp [h]), if_neg (by simp [h])]; exact ih
    · rw [if_pos (by simp [h]), if_pos (by simp [h]), List.map_cons, ih]
theorem amt_back (l : List Share) : amt (back l) = (amt l).map (- ·) := by simp [amt, back]
theorem least_back (l : List Share) : leastF (back l) = leastF l := by
  unfold leastF mostB
  rw [nzl_back, amt_back, most_neg]
  simp [back]
theorem right_back {l : List Share} (h : RightP l) : RightP (back l) := by
  refine ⟨by simpa [back] using h.len, fun x hx => ?_, ?_, ?_⟩
  · obtain ⟨y, hy, rfl⟩ := List.mem_map.1 hx
    have := h.ok y hy
    unfold okS at this ⊢
    dsimp only
    omega
  · unfold back; rw [List.pairwise_map]; exact h.inc
  · have : ∀ l, sumA (back l) = - sumA l := by
      intro l
      induction l with
      | nil => rfl
      | cons x r ih => simp only [back, sumA, amt, List.map_cons, List.sum_cons] at ih ⊢; omega
    rw [this, h.sum]; rfl
theorem most_half {az : List Int} (hn : az.length ≤ 8) (hz : ∀ i, i < az.length → az.getD i 0 ≠ 0) : ∀ S, S < 2 ^ az.length → 2 * mostB az S ≤ cardTo S az.length ∧ (sumB az S ≠ 0 → 2 * mostB az S + 1 ≤ cardTo S az.length) := by
  intro S
  induction S using Nat.strongRecOn with
  | _ S ih =>
    intro hS
    have h256 := pow_le8 hn
    by_cases h0 : S = 0
    · subst h0
      rw [most_zero, cardTo_zero, sumB_zero]
      exact ⟨Nat.le_refl _, fun h => absurd rfl h⟩
    · obtain ⟨i, h1, h2, h3⟩ := most_ex hn hS h0
      have hlt := clr_lt (by omega) (by omega) h2
      obtain ⟨i1, i2⟩ := ih _ hlt (by omega)
      have hc := cardTo_clr h2 az.length
      rw [if_pos h1] at hc
      have hs := sumB_clr h2 h1
      have hza := hz i h1
      unfold zB at h3
      split at h3
      · rename_i hz0
        have := i2 (by omega)
        exact ⟨by omega, fun h => absurd hz0 h⟩
      · exact ⟨by omega, fun _ => by omega⟩
theorem least_bounds {l : List Share} (h : RightP l) : (nzl l).length ≤ 2 * leastF l ∧ ((nzl l).length = 0 → leastF l = 0) ∧ ((nzl l).length ≠ 0 → leastF l < (nzl l).length) := by
  have hn := nzl_nz h
  have hle : (amt (nzl l)).length = (nzl l).length := by simp [amt]
  have h1 := (most_half (az := amt (nzl l)) (by rw [hle]; exact hn.len) (fun i hi => by
    rw [hle] at hi
    obtain ⟨x, hx⟩ := getElem_some hi
    have : (amt (nzl l)).getD i 0 = x.a := by simp [amt, hx]
    rw [this]; exact hn.nz x (List.mem_of_getElem? hx)) (full (nzl l).length) (by rw [hle]; exact full_lt _)).1
  rw [hle, cardTo_full _ _ (Nat.le_refl _)] at h1
  unfold leastF
  refine ⟨by omega, fun h => by omega, fun h0 => ?_⟩
  have hz : sumB (amt (nzl l)) (full (nzl l).length) = 0 := by rw [← hle, sumB_full]; exact hn.sum
  have := most_more (az := amt (nzl l)) (by rw [hle]; exact hn.len) (S := full (nzl l).length) (T := 0) (by rw [hle]; exact full_lt _) (fun i hi => by simp at hi) (fun e => by
    have hb := full_bit (nzl l).length 0
    rw [← e] at hb
    simp at hb
    exact h0 (by rw [hb]; rfl)) hz
  omega
end Go.Proofs.YtpkhannkbafimaaGreat
