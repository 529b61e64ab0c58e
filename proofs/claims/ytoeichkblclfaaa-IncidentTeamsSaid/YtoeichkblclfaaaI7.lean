/- Incidents: which ones need a team first, plain. No program in sight. -/
import Derived.Test.YtoeichkblclfaaaI4
namespace Go.Proofs.Ytoeichkblclfaaa
open Go.RowKit
/-- a needs a team before b. -/
def befI (a b : Inc) : Prop := max a.tri 1 < max b.tri 1 ∨ (max a.tri 1 = max b.tri 1 ∧ (a.since < b.since ∨ (a.since = b.since ∧ a.id < b.id)))
instance (a b : Inc) : Decidable (befI a b) := by unfold befI; infer_instance
def cmpU (a b : Inc) : Int := orI [cmpI (max a.tri 1) (max b.tri 1), cmpI a.since b.since, cmpI a.id b.id]
theorem cmpU_lt (a b : Inc) : cmpU a b < 0 ↔ befI a b := by
  have h1 := cmpI_lt (max a.tri 1) (max b.tri 1)
  have h2 := cmpI_eq (max a.tri 1) (max b.tri 1)
  have h3 := cmpI_lt a.since b.since
  have h4 := cmpI_eq a.since b.since
  have h5 := cmpI_lt a.id b.id
  have h6 := cmpI_eq a.id b.id
  unfold befI
  have h : cmpU a b = if cmpI (max a.tri 1) (max b.tri 1) = 0 then (if cmpI a.since b.since = 0 then (if cmpI a.id b.id = 0 then 0 else cmpI a.id b.id) else cmpI a.since b.since) else cmpI (max a.tri 1) (max b.tri 1) := rfl
  generalize max a.tri 1 = p at *
  generalize max b.tri 1 = q at *
  rw [h]
  split
  · split
    · split <;> omega
    · omega
  · omega
theorem befI_asymm {a b : Inc} (h : befI a b) (k : befI b a) : False := by unfold befI at *; omega
theorem befI_or {a b : Inc} (h : a.id ≠ b.id) (k : ¬ befI b a) : befI a b := by unfold befI at *; omega
def waitL (l : List Inc) : List Inc := l.filter fun x => decide (x.st = 1)
def urgL (l : List Inc) : List Inc := (waitL l).mergeSort fun x y => !decide (befI y x)
def urgF (l : List Inc) : List Int := (urgL l).map (·.id)
def IdsN (l : List Inc) : Prop := (l.map (·.id)).Nodup
theorem ids_get {l : List Inc} (h : IdsN l) {i j : Nat} {x y : Inc} (hx : l[i]? = some x) (hy : l[j]? = some y) (e : x.id = y.id) : i = j := by
  have h1 : (l.map (·.id))[i]? = some x.id := by rw [List.getElem?_map, hx]; rfl
  have h2 : (l.map (·.id))[j]? = some y.id := by rw [List.getElem?_map, hy]; rfl
  rw [e] at h1
  obtain ⟨hi, g1⟩ := List.getElem?_eq_some_iff.1 h1
  obtain ⟨hj, g2⟩ := List.getElem?_eq_some_iff.1 h2
  have hp := List.pairwise_iff_getElem.1 h
  rcases Nat.lt_trichotomy i j with h3 | h3 | h3
  · exact absurd (g1.trans g2.symm) (hp i j hi hj h3)
  · exact h3
  · exact absurd (g2.trans g1.symm) (hp j i hj hi h3)
theorem ids_mem {l : List Inc} (h : IdsN l) {x y : Inc} (hx : x ∈ l) (hy : y ∈ l) (e : x.id = y.id) : x = y := by
  obtain ⟨i, hi⟩ := List.getElem?_of_mem hx
  obtain ⟨j, hj⟩ := List.getElem?_of_mem hy
  have := ids_get h hi hj e
  subst this
  rw [hi] at hj; cases hj; rfl
theorem ids_of {l : List Inc} (h : rightI l = 0) : IdsN l := by
  refine List.pairwise_iff_getElem.2 fun i j hi hj hij => ?_
  rw [List.getElem_map, List.getElem_map]
  have hjl : j < l.length := by simpa using hj
  have hil : i < l.length := by omega
  obtain ⟨_, h2, _, _⟩ := ic_of h (List.getElem?_eq_getElem hjl)
  intro e
  have := any_yes (p := idB l[j].id) hij (List.getElem?_eq_getElem hil) (decide_eq_true e)
  rw [h2] at this; cases this
theorem ids_wait {l : List Inc} (h : IdsN l) : IdsN (waitL l) := h.sublist (List.Sublist.map _ (List.filter_sublist))
theorem urgL_perm (l : List Inc) : (urgL l).Perm (waitL l) := List.mergeSort_perm _ _
theorem urgL_not (l : List Inc) : (urgL l).Pairwise fun x y => ¬ befI y x :=
  (List.pairwise_mergeSort (le := fun x y : Inc => !decide (befI y x)) (fun a b c h1 h2 => by simp at *; unfold befI at *; omega) (fun a b => by simp; unfold befI; omega) (waitL l)).imp fun h => by simpa using h
theorem urg_uniq {l : List Inc} (hK : IdsN l) {ys : List Inc} (hp : ys.Perm (waitL l)) (hw : ys.Pairwise fun x y => ¬ befI y x) : ys = urgL l := by
  refine List.Perm.eq_of_pairwise (le := fun x y => ¬ befI y x) (fun x y hx hy h1 h2 => ?_) hw (urgL_not l) (hp.trans (urgL_perm l).symm)
  refine ids_mem (ids_wait hK) (hp.mem_iff.1 hx) ((urgL_perm l).mem_iff.1 hy) ?_
  unfold befI at *; omega
theorem urgL_bef {l : List Inc} (hK : IdsN l) : (urgL l).Pairwise befI := by
  have hn : IdsN (urgL l) := by
    have := ids_wait hK
    exact ((urgL_perm l).map _).nodup_iff.2 this
  have h1 := urgL_not l
  rw [List.pairwise_iff_getElem] at h1 ⊢
  intro i j hi hj hij
  refine befI_or (fun e => ?_) (h1 i j hi hj hij)
  have := ids_get hn (List.getElem?_eq_getElem hi) (List.getElem?_eq_getElem hj) e
  omega
/-- How many come before x. -/
def rankI (r : List Inc) (x : Inc) : Nat := r.countP fun y => decide (befI y x)
theorem rank_at {r s : List Inc} (hp : s.Perm r) (hs : s.Pairwise befI) {p : Nat} {x : Inc} (hx : s[p]? = some x) : rankI r x = p := by
  have hlt := (List.getElem?_eq_some_iff.1 hx).1
  unfold rankI
  rw [← hp.countP_eq]
  have e : s = s.take p ++ x :: s.drop (p + 1) := by
    rw [← drop_of hx, List.take_append_drop]
  have hpw := hs
  rw [e] at hpw ⊢
  obtain ⟨h1, h2, h3⟩ := List.pairwise_append.1 hpw
  obtain ⟨h4, h5⟩ := List.pairwise_cons.1 h2
  rw [List.countP_append, List.countP_cons, List.countP_eq_length.2 (fun y hy => decide_eq_true (h3 y hy x (by simp))), List.countP_eq_zero.2 (fun y hy => by
    rw [decide_eq_true_eq]; exact fun hb => befI_asymm (h4 y hy) hb), if_neg (by rw [decide_eq_true_eq]; exact fun hb => befI_asymm hb hb)]
  simp; omega
theorem rank_lt {l : List Inc} (hK : IdsN l) {x : Inc} (hx : x ∈ waitL l) : rankI (waitL l) x < (waitL l).length := by
  obtain ⟨p, hp⟩ := List.getElem?_of_mem ((urgL_perm l).mem_iff.2 hx)
  rw [rank_at (urgL_perm l) (urgL_bef hK) hp, ← (urgL_perm l).length_eq]
  exact (List.getElem?_eq_some_iff.1 hp).1
theorem rank_inj {l : List Inc} (hK : IdsN l) {i j : Nat} {x y : Inc} (hx : (waitL l)[i]? = some x) (hy : (waitL l)[j]? = some y) (e : rankI (waitL l) x = rankI (waitL l) y) : i = j := by
  obtain ⟨p, hp⟩ := List.getElem?_of_mem ((urgL_perm l).mem_iff.2 (List.mem_of_getElem? hx))
  obtain ⟨q, hq⟩ := List.getElem?_of_mem ((urgL_perm l).mem_iff.2 (List.mem_of_getElem? hy))
  rw [rank_at (urgL_perm l) (urgL_bef hK) hp, rank_at (urgL_perm l) (urgL_bef hK) hq] at e
  subst e
  rw [hp] at hq; cases hq
  exact ids_get (ids_wait hK) hx hy rfl
theorem rank_fill {l : List Inc} (hK : IdsN l) {es : List Int} (hl : es.length = (waitL l).length) (h : ∀ (i : Nat) (x : Inc), (waitL l)[i]? = some x → es[rankI (waitL l) x]? = some x.id) : es = urgF l := by
  have hlu := (urgL_perm l).length_eq
  refine List.ext_getElem? fun p => ?_
  unfold urgF
  rw [List.getElem?_map]
  cases hp : (urgL l)[p]? with
  | none =>
    have := List.getElem?_eq_none_iff.1 hp
    rw [List.getElem?_eq_none (by omega)]; rfl
  | some y =>
    obtain ⟨i, hi⟩ := List.getElem?_of_mem ((urgL_perm l).mem_iff.1 (List.mem_of_getElem? hp))
    have := h i y hi
    rw [rank_at (urgL_perm l) (urgL_bef hK) hp] at this
    rw [this]; rfl
theorem wait_yes {l : List Inc} {k : Nat} {x : Inc} (hx : l[k]? = some x) (h : x.st = 1) : waitL (l.take (k + 1)) = waitL (l.take k) ++ [x] := by
  unfold waitL; rw [take_snoc _ _ _ hx, List.filter_append]; simp [h]
theorem wait_no {l : List Inc} {k : Nat} {x : Inc} (hx : l[k]? = some x) (h : x.st ≠ 1) : waitL (l.take (k + 1)) = waitL (l.take k) := by
  unfold waitL; rw [take_snoc _ _ _ hx, List.filter_append]; simp [h]
theorem wait_len (l : List Inc) : (waitL l).length ≤ l.length := List.length_filter_le _ _

end Go.Proofs.Ytoeichkblclfaaa
