/- The transfers in order; bounds. No program in sight. -/
import Derived.Test.YtpkhannkbafimaaGreatP4
namespace Go.Proofs.YtpkhannkbafimaaGreat

def keyLt (a b : Tfer) : Prop := a.f < b.f ∨ a.f = b.f ∧ a.t < b.t
instance (a b : Tfer) : Decidable (keyLt a b) := by unfold keyLt; infer_instance
def keyLe (a b : Tfer) : Bool := decide (¬ keyLt b a)
def netF (l : List Share) : List Tfer := (netO (nzl l)).mergeSort keyLe
def leastF (l : List Share) : Nat := (nzl l).length - mostB (amt (nzl l)) (full (nzl l).length)
theorem key_eq {a b : Tfer} (h1 : ¬ keyLt a b) (h2 : ¬ keyLt b a) : a.f = b.f ∧ a.t = b.t := by unfold keyLt at h1 h2; omega
def wgt (x : Tfer) (v : Int) : Int := (if x.t = v then x.a else 0) - (if x.f = v then x.a else 0)
theorem bal_set {y : Tfer} (v : Int) : ∀ {g : List Tfer} {i : Nat} {x : Tfer}, g[i]? = some x → bal (g.set i y) v + wgt x v = bal g v + wgt y v
  | [], i, x, h => by simp at h
  | z :: r, 0, x, h => by simp at h; subst h; simp only [List.set_cons_zero, bal, wgt]; omega
  | z :: r, i + 1, x, h => by
    have := bal_set (y := y) v (g := r) (i := i) (x := x) (by simpa using h)
    simp only [List.set_cons_succ, bal]; omega
theorem bal_erase (v : Int) : ∀ {g : List Tfer} {i : Nat} {x : Tfer}, g[i]? = some x → bal (g.eraseIdx i) v + wgt x v = bal g v
  | [], i, x, h => by simp at h
  | z :: r, 0, x, h => by simp at h; subst h; simp only [List.eraseIdx_cons_zero, bal, wgt]; omega
  | z :: r, i + 1, x, h => by
    have := bal_erase v (g := r) (i := i) (x := x) (by simpa using h)
    simp only [List.eraseIdx_cons_succ, bal]; omega
theorem bal_perm (v : Int) {a b : List Tfer} (h : a.Perm b) : bal a v = bal b v := by
  induction h with
  | nil => rfl
  | cons x _ ih => rw [bal, bal, ih]
  | swap x y l => simp only [bal]; omega
  | trans _ _ ih1 ih2 => exact ih1.trans ih2
/-- Of the fewest transfers no two have the same ends. -/
theorem apart {l : List Share} (h : Nz l) {t : List Tfer} (ht : ∀ x ∈ t, okT x) (hb : ∀ v, bal t v = posAt l v) (hl : t.length + mostB (amt l) (full l.length) = l.length) {i j : Nat} {x y : Tfer} (hij : i < j) (hx : t[i]? = some x) (hy : t[j]? = some y) :
    ¬ (x.f = y.f ∧ x.t = y.t) := by
  rintro ⟨e1, e2⟩
  have hj := (List.getElem?_eq_some_iff.1 hy).1
  have hy' : (t.set i ⟨x.f, x.t, x.a + y.a⟩)[j]? = some y := by rw [List.getElem?_set_ne (by omega)]; exact hy
  have hlen : ((t.set i ⟨x.f, x.t, x.a + y.a⟩).eraseIdx j).length = t.length - 1 := by
    rw [List.length_eraseIdx_of_lt (by simpa using hj)]; simp
  have := lower (t := (t.set i ⟨x.f, x.t, x.a + y.a⟩).eraseIdx j) (l := l) (fun z hz => by
    rcases List.mem_or_eq_of_mem_set (List.mem_of_mem_eraseIdx hz) with hz | rfl
    · exact ⟨(ht z hz).1, (ht z hz).2.1⟩
    · exact ⟨(ht x (List.mem_of_getElem? hx)).1, (ht x (List.mem_of_getElem? hx)).2.1⟩) (fun x hx => (h.ok x hx).1) h.dis h.len (fun v _ => by
    have h1 := bal_set (y := ⟨x.f, x.t, x.a + y.a⟩) v hx
    have h2 := bal_erase v hy'
    have h3 := hb v
    have h4 : wgt ⟨x.f, x.t, x.a + y.a⟩ v = wgt x v + wgt y v := by
      unfold wgt
      dsimp only
      rw [← e1, ← e2]
      split <;> split <;> omega
    omega)
  omega
theorem nzl_nz {l : List Share} (h : RightP l) : Nz (nzl l) := by
  refine ⟨Nat.le_trans (List.length_filter_le _ _) h.len, fun x hx => h.ok x (List.mem_filter.1 hx).1, fun x hx => by have := (List.mem_filter.1 hx).2; simpa using this, ?_, ?_⟩
  · have : (nzl l).Pairwise fun a b => a.o < b.o := h.inc.filter _
    rw [List.Nodup, List.pairwise_map]
    exact this.imp fun h e => by omega
  · have : ∀ l, sumA (nzl l) = sumA l := by
      intro l
      induction l with
      | nil => rfl
      | cons x r ih =>
        have e : sumA (x :: r) = x.a + sumA r := by simp [sumA, amt]
        unfold nzl at ih ⊢
        rw [List.filter_cons]
        split
        · have e2 : ∀ l, sumA (x :: l) = x.a + sumA l := fun l => by simp [sumA, amt]
          rw [e2, ih, e]
        · rename_i hx
          have : x.a = 0 := by simpa using hx
          rw [ih, e]; omega
    rw [this]; exact h.sum
theorem posAt_nzl (v : Int) : ∀ l, posAt (nzl l) v = posAt l v
  | [] => rfl
  | x :: r => by
    have ih := posAt_nzl v r
    unfold nzl at ih ⊢
    rw [List.filter_cons]
    split
    · rw [posAt, posAt, ih]
    · rename_i hx
      have : x.a = 0 := by simpa using hx
      rw [posAt, ih, this]; simp
/-- What is known of the transfers of Net. -/
structure NetP (l : List Share) (t : List Tfer) : Prop where
  ok : ∀ x ∈ t, okT x
  bal : ∀ v, bal t v = posAt l v
  len : t.length = leastF l
  inc : t.Pairwise keyLt
theorem net_sorted {l : List Share} (h : RightP l) {t : List Tfer} (hp : t.Perm (netO (nzl l))) (hs : t.Pairwise fun a b => ¬ keyLt b a) : t = netF l ∧ NetP l t := by
  obtain ⟨h1, h2, h3⟩ := netO_spec (nzl_nz h)
  have ok : ∀ x ∈ t, okT x := fun x hx => h1 x (hp.mem_iff.1 hx)
  have hb : ∀ v, bal t v = posAt (nzl l) v := fun v => (bal_perm v hp).trans (h2 v)
  have hl : t.length + mostB (amt (nzl l)) (full (nzl l).length) = (nzl l).length := by rw [hp.length_eq]; exact h3
  have hinc : t.Pairwise keyLt := by
    rw [List.pairwise_iff_getElem] at hs ⊢
    intro i j hi hj hij
    have hn := apart (nzl_nz h) ok hb hl hij (List.getElem?_eq_getElem hi) (List.getElem?_eq_getElem hj)
    have := hs i j hi hj hij
    by_cases hk : keyLt t[i] t[j]
    · exact hk
    · exact absurd (key_eq hk this) hn
  refine ⟨?_, ok, fun v => by rw [hb v, posAt_nzl], by unfold leastF; omega, hinc⟩
  have hm : (netF l).Pairwise fun a b => keyLe a b = true := List.pairwise_mergeSort (fun a b c h1 h2 => by
    unfold keyLe keyLt at *
    simp only [decide_eq_true_eq] at *
    omega) (fun a b => by
    unfold keyLe keyLt
    simp only [Bool.or_eq_true, decide_eq_true_eq]
    omega) _
  refine List.Perm.eq_of_pairwise (le := fun a b => keyLe a b = true) (fun a b ha hb' h4 h5 => ?_) (hs.imp fun h => by unfold keyLe; simpa using h) hm (hp.trans (List.mergeSort_perm _ _).symm)
  have hbt : b ∈ t := hp.mem_iff.2 ((List.mergeSort_perm _ _).mem_iff.1 hb')
  unfold keyLe at h4 h5
  simp only [decide_eq_true_eq] at h4 h5
  obtain ⟨i, hi⟩ := List.getElem?_of_mem ha
  obtain ⟨j, hj⟩ := List.getElem?_of_mem hbt
  have hk := key_eq h5 h4
  rcases Nat.lt_trichotomy i j with e | e | e
  · exact absurd hk (apart (nzl_nz h) ok hb hl e hi hj)
  · subst e; rw [hi] at hj; exact Option.some.inj hj
  · exact absurd ⟨hk.1.symm, hk.2.symm⟩ (apart (nzl_nz h) ok hb hl e hj hi)
theorem netF_spec {l : List Share} (h : RightP l) : NetP l (netF l) := by
  have hm : (netF l).Pairwise fun a b => keyLe a b = true := List.pairwise_mergeSort (fun a b c h1 h2 => by
    unfold keyLe keyLt at *
    simp only [decide_eq_true_eq] at *
    omega) (fun a b => by
    unfold keyLe keyLt
    simp only [Bool.or_eq_true, decide_eq_true_eq]
    omega) _
  exact (net_sorted h (List.mergeSort_perm _ _) (hm.imp fun h => by unfold keyLe at h; simpa using h)).2
/-- Do transfers settle positions? -/
def okV (x : Tfer) : Prop := okO x.f ∧ okO x.t ∧ x.f ≠ x.t ∧ 1 ≤ x.a ∧ x.a ≤ 1099511627776
def ValidP (l : List Share) (t : List Tfer) : Prop := (∀ x ∈ t, okV x) ∧ ∀ v, okO v → bal t v = posAt l v
/-! ### bounds -/
def back (l : List Share) : List Share := l.map fun x => ⟨x.o, -x.a⟩
end Go.Proofs.YtpkhannkbafimaaGreat
