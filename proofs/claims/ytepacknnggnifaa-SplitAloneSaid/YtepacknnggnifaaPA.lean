/- The parts of an amount: plain. No program in sight. -/
import Derived.Test.YtepacknnggnifaaP8
import Derived.Test.YtepacknnggnifaaF1
namespace Go.Proofs.Ytepacknnggnifaa
open Go.RowKit

theorem sum_bnd : ∀ {l : List Int}, (∀ x ∈ l, -2199023255552 ≤ x ∧ x ≤ 2199023255552) → -2199023255552 * (l.length : Int) ≤ l.sum ∧ l.sum ≤ 2199023255552 * (l.length : Int)
  | [], _ => by simp
  | x :: r, h => by
    have h1 := sum_bnd (l := r) fun y hy => h y (by simp [hy])
    have h2 := h x (by simp)
    simp only [List.sum_cons, List.length_cons]
    omega
theorem sum_take {l : List Int} {k : Nat} {x : Int} (h : l[k]? = some x) : (l.take (k + 1)).sum = (l.take k).sum + x := by
  rw [take_snoc l k x h, List.sum_append]; simp
/-- A row of n that is filled up to k. -/
def upTo (l : List Int) (n k : Nat) : List Int := l.take k ++ List.replicate (n - k) 0
theorem upTo_len {l : List Int} {n k : Nat} (h : k ≤ n) (hl : l.length = n) : (upTo l n k).length = n := by
  rw [upTo, List.length_append, List.length_take, List.length_replicate]; omega
theorem upTo_set {l : List Int} {n k : Nat} {x : Int} (h : l[k]? = some x) (hl : l.length = n) : (upTo l n k).set k x = upTo l n (k + 1) := by
  have hk := (List.getElem?_eq_some_iff.1 h).1
  obtain ⟨m, hm⟩ : ∃ m, n - k = m + 1 := ⟨n - k - 1, by omega⟩
  have h1 : (l.take k).length = k := by rw [List.length_take]; omega
  rw [upTo, upTo, take_snoc l k x h, hm, show n - (k + 1) = m by omega, List.replicate_succ, List.set_append_right _ _ (by omega), h1, Nat.sub_self, List.set_cons_zero, List.append_assoc]
  rfl
theorem upTo_get {l : List Int} {n k : Nat} {x : Int} (h : l[k]? = some x) (hl : l.length = n) : (upTo l n k)[k]? = some 0 := by
  have hk := (List.getElem?_eq_some_iff.1 h).1
  obtain ⟨m, hm⟩ : ∃ m, n - k = m + 1 := ⟨n - k - 1, by omega⟩
  have h1 : (l.take k).length = k := by rw [List.length_take]; omega
  rw [upTo, List.getElem?_append_right (by omega), h1, Nat.sub_self, hm, List.replicate_succ]; rfl
theorem upTo_end {l : List Int} {n : Nat} (hl : l.length = n) : upTo l n n = l := by subst hl; simp [upTo]
theorem upTo_start (l : List Int) (n : Nat) : upTo l n 0 = List.replicate n 0 := by simp [upTo]

def qL (a : Int) (ws : List Int) : List Int := ws.map fun w => a * w / ws.sum
def rL (a : Int) (ws : List Int) : List Int := ws.map fun w => a * w % ws.sum
def leftN (a : Int) (ws : List Int) : Nat := (a - (qL a ws).sum).toNat
def idxL (n : Nat) : List Int := (List.range n).map fun i : Nat => (i : Int)
def befB (f : Int → Int) (x y : Int) : Bool := decide (bef f x y ∨ x = y)
/-- The parts' numbers, those with a greater rest first. -/
def ordL (rs : List Int) : List Int := (idxL rs.length).mergeSort (befB (keyR rs))
theorem idxL_len (n : Nat) : (idxL n).length = n := by simp [idxL]
theorem idxL_get {n i : Nat} (h : i < n) : (idxL n)[i]? = some (i : Int) := by
  rw [idxL, List.getElem?_map, List.getElem?_range h]; rfl
theorem idxL_mem {n : Nat} {x : Int} : x ∈ idxL n ↔ ∃ i : Nat, i < n ∧ x = i := by
  simp only [idxL, List.mem_map, List.mem_range]
  exact ⟨fun ⟨i, h, e⟩ => ⟨i, h, e.symm⟩, fun ⟨i, h, e⟩ => ⟨i, h, e.symm⟩⟩
theorem idxL_lt (n : Nat) : (idxL n).Pairwise (· < ·) := by
  rw [idxL, List.pairwise_map]
  exact List.pairwise_lt_range.imp fun h => Int.ofNat_lt.2 h
theorem idxL_stb (f : Int → Int) (n : Nat) : (idxL n).Pairwise (stb f) := (idxL_lt n).imp fun {a b} (h : a < b) => (show stb f a b from fun _ => h)
theorem idxL_nodup (n : Nat) : (idxL n).Nodup := (idxL_lt n).imp fun h => by omega
theorem ordL_sorted (rs : List Int) : SortedOf (keyR rs) (idxL rs.length) (ordL rs) := by
  have hp : (ordL rs).Perm (idxL rs.length) := List.mergeSort_perm _ _
  refine ⟨hp, ?_⟩
  have h1 : (ordL rs).Pairwise fun x y => befB (keyR rs) x y = true := List.pairwise_mergeSort
    (fun a b c h1 h2 => by
      simp only [befB, decide_eq_true_eq] at *
      rcases h1 with h1 | rfl
      · rcases h2 with h2 | rfl
        · exact .inl (bef_trans h1 h2)
        · exact .inl h1
      · exact h2)
    (fun a b => by
      simp only [befB, Bool.or_eq_true, decide_eq_true_eq]
      by_cases e : a = b
      · exact .inl (.inr e)
      · rcases bef_total (f := keyR rs) e with h | h
        · exact .inl (.inl h)
        · exact .inr (.inl h)) _
  have h2 : (ordL rs).Nodup := hp.nodup_iff.2 (idxL_nodup _)
  refine (h1.and h2).imp fun {a b} h => ?_
  have := h.1
  simp only [befB, decide_eq_true_eq] at this
  rcases this with h' | e
  · exact h'
  · exact absurd e h.2
theorem ordL_len (rs : List Int) : (ordL rs).length = rs.length := by rw [(ordL_sorted rs).1.length_eq, idxL_len]
theorem ordL_mem {rs : List Int} {x : Int} (h : x ∈ ordL rs) : ∃ i : Nat, i < rs.length ∧ x = i := idxL_mem.1 ((ordL_sorted rs).1.mem_iff.1 h)
theorem ordL_nodup (rs : List Int) : (ordL rs).Nodup := (ordL_sorted rs).1.nodup_iff.2 (idxL_nodup _)

/-! ### one more for some -/
def incr (l : List Int) (i : Int) : List Int := l.set i.toNat (l.getD i.toNat 0 + 1)
def incs (l is : List Int) : List Int := is.foldl incr l
def marks (l is : List Int) : List Int := is.foldl (fun r i => r.set i.toNat (-1)) l
theorem incr_len (l : List Int) (i : Int) : (incr l i).length = l.length := List.length_set
theorem incs_len : ∀ (is l : List Int), (incs l is).length = l.length
  | [], _ => rfl
  | i :: r, l => (incs_len r (incr l i)).trans (incr_len l i)
theorem marks_len : ∀ (is l : List Int), (marks l is).length = l.length
  | [], _ => rfl
  | i :: r, l => (marks_len r (l.set i.toNat (-1))).trans List.length_set
theorem incs_snoc (l is : List Int) (i : Int) : incs l (is ++ [i]) = incr (incs l is) i := by simp [incs]
theorem marks_snoc (l is : List Int) (i : Int) : marks l (is ++ [i]) = (marks l is).set i.toNat (-1) := by simp [marks]
theorem set_sum : ∀ (l : List Int) (k : Nat) (x : Int), l[k]? = some x → (l.set k (x + 1)).sum = l.sum + 1
  | [], k, x, h => by simp at h
  | y :: r, 0, x, h => by simp at h; subst h; simp only [List.set_cons_zero, List.sum_cons]; omega
  | y :: r, k + 1, x, h => by
    have := set_sum r k x (by simpa using h)
    simp only [List.set_cons_succ, List.sum_cons]; omega
theorem incs_sum : ∀ (is l : List Int), (∀ i ∈ is, ∃ k : Nat, k < l.length ∧ i = k) → (incs l is).sum = l.sum + is.length
  | [], l, _ => by simp [incs]
  | i :: r, l, h => by
    obtain ⟨k, hk, rfl⟩ := h i (by simp)
    obtain ⟨x, hx⟩ := getElem_some hk
    have h1 : incr l k = l.set k (x + 1) := by rw [incr, Int.toNat_natCast, List.getD, hx]; rfl
    show (incs (incr l k) r).sum = _
    rw [incs_sum r _ fun j hj => by rw [incr_len]; exact h j (by simp [hj]), h1, set_sum l k x hx, List.length_cons]
    omega
theorem incs_get : ∀ (is l : List Int) (j : Nat) (x : Int), is.Nodup → (∀ i ∈ is, 0 ≤ i) → l[j]? = some x → (incs l is)[j]? = some (x + if (j : Int) ∈ is then 1 else 0)
  | [], l, j, x, _, _, h => by simp [incs, h]
  | i :: r, l, j, x, hn, h0, h => by
    obtain ⟨h1, h2⟩ := List.nodup_cons.1 hn
    have hj := (List.getElem?_eq_some_iff.1 h).1
    have hi := h0 i (by simp)
    show (incs (incr l i) r)[j]? = _
    by_cases e : i = j
    · subst e
      have hs : (incr l (j : Int))[j]? = some (x + 1) := by
        rw [incr, Int.toNat_natCast, List.getElem?_set_self hj, List.getD, h]; rfl
      rw [incs_get r _ j _ h2 (fun i hi => h0 i (by simp [hi])) hs, if_neg h1, if_pos (by simp), Int.add_zero]
    · have hs : (incr l i)[j]? = some x := by rw [incr, List.getElem?_set_ne (by omega)]; exact h
      rw [incs_get r _ j _ h2 (fun i hi => h0 i (by simp [hi])) hs]
      congr 2
      by_cases hm : (j : Int) ∈ r
      · rw [if_pos hm, if_pos (by simp [hm])]
      · rw [if_neg hm, if_neg (by simp [hm]; omega)]
theorem marks_get : ∀ (is l : List Int) (j : Nat) (x : Int), (∀ i ∈ is, 0 ≤ i) → l[j]? = some x → (marks l is)[j]? = some (if (j : Int) ∈ is then -1 else x)
  | [], l, j, x, _, h => by simp [marks, h]
  | i :: r, l, j, x, h0, h => by
    have hj := (List.getElem?_eq_some_iff.1 h).1
    have hi := h0 i (by simp)
    show (marks (l.set i.toNat (-1)) r)[j]? = _
    by_cases e : i = j
    · subst e
      rw [marks_get r _ j (-1) (fun i hi => h0 i (by simp [hi])) (by rw [Int.toNat_natCast, List.getElem?_set_self hj]), if_pos (show (j : Int) ∈ (j : Int) :: r by simp)]
      split <;> rfl
    · rw [marks_get r _ j x (fun i hi => h0 i (by simp [hi])) (by rw [List.getElem?_set_ne (by omega)]; exact h)]
      by_cases hm : (j : Int) ∈ r
      · rw [if_pos hm, if_pos (by simp [hm])]
      · rw [if_neg hm, if_neg (by simp [hm]; omega)]

/-- The parts. -/
def partsL (a : Int) (ws : List Int) : List Int := incs (qL a ws) ((ordL (rL a ws)).take (leftN a ws))
theorem qL_len (a : Int) (ws : List Int) : (qL a ws).length = ws.length := by simp [qL]
theorem rL_len (a : Int) (ws : List Int) : (rL a ws).length = ws.length := by simp [rL]
theorem partsL_len (a : Int) (ws : List Int) : (partsL a ws).length = ws.length := by rw [partsL, incs_len, qL_len]
theorem qr_sum (a s : Int) : ∀ l : List Int, (l.map fun w => a * w / s).sum * s + (l.map fun w => a * w % s).sum = a * l.sum
  | [] => by simp
  | w :: r => by
    have h := qr_sum a s r
    have hm := Int.mul_ediv_add_emod (a * w) s
    rw [Int.mul_comm] at hm
    simp only [List.map_cons, List.sum_cons, Int.add_mul, Int.mul_add]
    omega
theorem sum_nn : ∀ {l : List Int} {s : Int}, (∀ x ∈ l, 0 ≤ x ∧ x < s) → 0 ≤ l.sum ∧ l.sum ≤ (s - 1) * l.length
  | [], s, _ => by simp
  | x :: r, s, h => by
    have h1 := sum_nn (l := r) fun y hy => h y (by simp [hy])
    have h2 := h x (by simp)
    simp only [List.sum_cons, List.length_cons, Int.natCast_add, Int.mul_add]
    omega
theorem rL_sum (a : Int) (ws : List Int) : (rL a ws).sum = (a - (qL a ws).sum) * ws.sum := by
  have h : (qL a ws).sum * ws.sum + (rL a ws).sum = a * ws.sum := qr_sum a ws.sum ws
  rw [Int.sub_mul]; omega
/-- What is known where Split answers with parts. -/
structure Good (a : Int) (ws : List Int) : Prop where
  len : ws.length ≤ 64
  a0 : 0 ≤ a
  a1 : a ≤ 1099511627776
  wOk : ∀ w ∈ ws, 0 ≤ w ∧ w ≤ 1000000000
  s0 : 0 < ws.sum
  s1 : ws.sum ≤ 64000000000
theorem le_sum : ∀ {l : List Int}, (∀ w ∈ l, 0 ≤ w) → ∀ w ∈ l, w ≤ l.sum
  | [], _, w, hw => by simp at hw
  | x :: r, h, w, hw => by
    have h1 : 0 ≤ r.sum := by
      clear hw
      have : ∀ l : List Int, (∀ w ∈ l, 0 ≤ w) → 0 ≤ l.sum := by
        intro l
        induction l with
        | nil => intro _; simp
        | cons y t ih => intro h; have := ih fun z hz => h z (by simp [hz]); have := h y (by simp); simp only [List.sum_cons]; omega
      exact this r fun z hz => h z (by simp [hz])
    have h2 := h x (by simp)
    simp only [List.sum_cons]
    rcases List.mem_cons.1 hw with rfl | hw
    · omega
    · have := le_sum (l := r) (fun z hz => h z (by simp [hz])) w hw; omega
section
variable {a : Int} {ws : List Int} (g : Good a ws)
include g
theorem Good.q {w : Int} (hw : w ∈ ws) : 0 ≤ a * w / ws.sum ∧ a * w / ws.sum ≤ a := by
  obtain ⟨h1, h2⟩ := g.wOk w hw
  have h3 := le_sum (fun w hw => (g.wOk w hw).1) w hw
  have := g.s0
  refine ⟨Int.ediv_nonneg (Int.mul_nonneg g.a0 h1) (by omega), ?_⟩
  exact Int.ediv_le_of_le_mul g.s0 (Int.mul_le_mul_of_nonneg_left h3 g.a0)
theorem Good.r (w : Int) : 0 ≤ a * w % ws.sum ∧ a * w % ws.sum < ws.sum := by
  have := g.s0
  exact ⟨Int.emod_nonneg _ (by omega), Int.emod_lt_of_pos _ g.s0⟩
theorem Good.left : (leftN a ws : Int) = a - (qL a ws).sum ∧ leftN a ws < ws.length := by
  have h := rL_sum a ws
  have hs := g.s0
  obtain ⟨h1, h2⟩ := sum_nn (l := rL a ws) (s := ws.sum) (by
    intro x hx
    obtain ⟨w, _, rfl⟩ := List.mem_map.1 hx
    exact g.r w)
  rw [rL_len] at h2
  have hn : 0 < ws.length := by
    cases hw : ws with
    | nil => rw [hw] at hs; simp at hs
    | cons _ _ => simp
  have h3 : 0 ≤ a - (qL a ws).sum := by
    rw [h] at h1
    exact Int.le_of_mul_le_mul_right (a := ws.sum) (by rw [Int.zero_mul]; exact h1) hs
  have h4 : (a - (qL a ws).sum) * ws.sum < ws.length * ws.sum := by
    rw [← h]
    refine Int.lt_of_le_of_lt h2 ?_
    rw [Int.sub_mul, Int.one_mul, Int.mul_comm ws.sum]
    omega
  have h5 := Int.lt_of_mul_lt_mul_right h4 (Int.le_of_lt hs)
  unfold leftN
  omega
theorem Good.sum : (partsL a ws).sum = a := by
  obtain ⟨h1, h2⟩ := g.left
  rw [partsL, incs_sum _ _ fun i hi => by rw [qL_len, ← rL_len a ws]; exact ordL_mem (List.mem_of_mem_take hi), List.length_take, ordL_len, rL_len]
  omega
end
/-- The number of the greatest rest that is left, the first one if there are more. -/
structure IsBest (r : List Int) (b i : Nat) : Prop where
  lt : b < r.length
  max : ∀ (j : Nat) (x y : Int), j < i → r[j]? = some x → r[b]? = some y → x ≤ y ∧ (j < b → x < y)
theorem best_next {rs : List Int} {m b : Nat} {n : Nat} (hn : rs.length = n) (h0 : ∀ x ∈ rs, 0 ≤ x) (hm : m < n) (hb : IsBest (marks rs ((ordL rs).take m)) b n) : (ordL rs)[m]? = some (b : Int) := by
  subst hn
  have hol := ordL_len rs
  obtain ⟨c, hc⟩ := getElem_some (xs := ordL rs) (k := m) (by omega)
  obtain ⟨c, hcl, rfl⟩ := ordL_mem (List.mem_of_getElem? hc)
  have hnn : ∀ i ∈ (ordL rs).take m, 0 ≤ i := fun i hi => by obtain ⟨k, _, rfl⟩ := ordL_mem (List.mem_of_mem_take hi); omega
  have hbl := hb.lt
  rw [marks_len] at hbl
  obtain ⟨x, hx⟩ := getElem_some hcl
  obtain ⟨y, hy⟩ := getElem_some hbl
  have hcm : (c : Int) ∉ (ordL rs).take m := by
    intro h
    obtain ⟨i, hi⟩ := List.getElem?_of_mem h
    rw [List.getElem?_take] at hi
    split at hi
    · obtain ⟨p1, e1⟩ := List.getElem?_eq_some_iff.1 hi
      obtain ⟨p2, e2⟩ := List.getElem?_eq_some_iff.1 hc
      have hne := List.pairwise_iff_getElem.1 (ordL_nodup rs) i m p1 p2 (by omega)
      exact hne (e1.trans e2.symm)
    · cases hi
  have m1 := marks_get ((ordL rs).take m) rs c x hnn hx
  rw [if_neg hcm] at m1
  have m2 := marks_get ((ordL rs).take m) rs b y hnn hy
  have x0 := h0 x (List.mem_of_getElem? hx)
  have h1 := hb.max c _ _ hcl m1 m2
  by_cases hbm : (b : Int) ∈ (ordL rs).take m
  · rw [if_pos hbm] at h1; omega
  rw [if_neg hbm] at h1
  by_cases e : c = b
  · rw [← e]; exact hc
  exfalso
  have hbo : (b : Int) ∈ ordL rs := (ordL_sorted rs).1.mem_iff.2 (idxL_mem.2 ⟨b, hbl, rfl⟩)
  obtain ⟨p, hp⟩ := List.getElem?_of_mem hbo
  have hpm : m < p := by
    rcases Nat.lt_trichotomy p m with h | h | h
    · exact absurd (List.mem_of_getElem? (i := p) (by rw [List.getElem?_take, if_pos h]; exact hp)) hbm
    · subst h; rw [hc] at hp; cases hp; omega
    · exact h
  obtain ⟨p1, e1⟩ := List.getElem?_eq_some_iff.1 hc
  obtain ⟨p2, e2⟩ := List.getElem?_eq_some_iff.1 hp
  have hbf := List.pairwise_iff_getElem.1 (ordL_sorted rs).2 m p p1 p2 hpm
  rw [e1, e2] at hbf
  have k1 : keyR rs c = x := by simp [keyR, List.getD, hx]
  have k2 : keyR rs b = y := by simp [keyR, List.getD, hy]
  unfold bef at hbf
  rw [k1, k2] at hbf
  omega
theorem best_start {r : List Int} (h : 0 < r.length) : IsBest r 0 1 := ⟨h, fun j x y hj hx hy => by
  obtain rfl : j = 0 := by omega
  rw [hx] at hy; cases hy; omega⟩
theorem best_up {r : List Int} {b i : Nat} {x y : Int} (h : IsBest r b i) (hi : r[i]? = some x) (hb : r[b]? = some y) (hxy : y < x) : IsBest r i (i + 1) := ⟨(List.getElem?_eq_some_iff.1 hi).1, fun j u v hj hu hv => by
  rw [hi] at hv; cases hv
  by_cases e : j = i
  · subst e; rw [hi] at hu; cases hu; omega
  · have := h.max j u y (by omega) hu hb; omega⟩
theorem best_stay {r : List Int} {b i : Nat} {x y : Int} (h : IsBest r b i) (hbi : b < i) (hi : r[i]? = some x) (hb : r[b]? = some y) (hxy : ¬ y < x) : IsBest r b (i + 1) := ⟨h.lt, fun j u v hj hu hv => by
  rw [hb] at hv; cases hv
  by_cases e : j = i
  · subst e; rw [hi] at hu; cases hu; omega
  · exact h.max j u y (by omega) hu hb⟩
/-- What Fair asks of one part. -/
def okP (a s w p : Int) : Prop := p = a * w / s ∨ (a * w % s ≠ 0 ∧ p = a * w / s + 1)
instance (a s w p : Int) : Decidable (okP a s w p) := by unfold okP; infer_instance
def fairP (a : Int) (ws ps : List Int) : Prop := ps.length = ws.length ∧ (∀ x ∈ ws.zip ps, okP a ws.sum x.1 x.2) ∧ ps.sum = a
instance (a : Int) (ws ps : List Int) : Decidable (fairP a ws ps) := by unfold fairP; infer_instance
theorem zip_get {ws ps : List Int} {k : Nat} {w p : Int} (hw : ws[k]? = some w) (hp : ps[k]? = some p) : (ws.zip ps)[k]? = some (w, p) := List.getElem?_zip_eq_some.2 ⟨hw, hp⟩
theorem zip_end {ws ps : List Int} {k : Nat} (hl : ps.length = ws.length) (h : ¬ k < ws.length) : (ws.zip ps).take k = ws.zip ps := List.take_of_length_le (by rw [List.length_zip]; omega)
theorem fair_bnd {a : Int} {ws ps : List Int} (g : Good a ws) (hl : ps.length = ws.length) (h : ∀ x ∈ ws.zip ps, okP a ws.sum x.1 x.2) : ∀ p ∈ ps, -2199023255552 ≤ p ∧ p ≤ 2199023255552 := by
  intro p hp
  obtain ⟨i, hi⟩ := List.getElem?_of_mem hp
  obtain ⟨w, hw⟩ := getElem_some (xs := ws) (k := i) (by have := (List.getElem?_eq_some_iff.1 hi).1; omega)
  have hok : okP a ws.sum w p := h _ (List.mem_of_getElem? (zip_get hw hi))
  have hq := g.q (List.mem_of_getElem? hw)
  have := g.a1
  unfold okP at hok
  omega
end Go.Proofs.Ytepacknnggnifaa
