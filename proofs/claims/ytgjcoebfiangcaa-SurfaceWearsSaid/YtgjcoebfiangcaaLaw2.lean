/- Plain laws of grooming and descending: no program in sight. -/
import Derived.Test.YtgjcoebfiangcaaLaw
namespace Go.Proofs.Ytgjcoebfiangcaa

def idxR (run : Int) : Nat → List Int → Int
  | _, [] => -1
  | k, x :: r => if x = run then k else idxR run (k + 1) r
theorem idxFrom_map (run : Int) : ∀ (l : List Surf) (k : Nat), idxFrom run k l = idxR run k (l.map (·.run))
  | [], _ => rfl
  | x :: r, k => by rw [idxFrom, List.map_cons, idxR, idxFrom_map run r (k + 1)]
theorem map_run_set {xs : List Surf} {i : Nat} {x y : Surf} (hx : xs[i]? = some x) (h : y.run = x.run) : (xs.set i y).map (·.run) = xs.map (·.run) := by
  rw [List.map_set, h]
  apply List.ext_getElem?
  intro j
  rw [List.getElem?_set]
  obtain ⟨hl, rfl⟩ := List.getElem?_eq_some_iff.1 hx
  by_cases hj : i = j
  · subst hj; simp [hl]
  · simp [hj]
theorem idx_set {xs : List Surf} {i : Nat} {x y : Surf} (run : Int) (hx : xs[i]? = some x) (h : y.run = x.run) : idx (xs.set i y) run = idx xs run := by
  rw [idx, idx, idxFrom_map, idxFrom_map, map_run_set hx h]
theorem right_set {xs : List Surf} {i : Nat} {x y : Surf} (hr : right xs = 0) (hx : xs[i]? = some x) (hy : okS y) (h : y.run = x.run) : right (xs.set i y) = 0 := by
  obtain ⟨a, b, c⟩ := right_ok hr
  refine right_of (by simpa using a) ?_ ?_
  · intro z hz
    rcases List.mem_or_eq_of_mem_set hz with hz | rfl
    · exact b z hz
    · exact hy
  · have h1 : (xs.map (·.run)).Pairwise (· < ·) := List.pairwise_map.2 c
    rw [← map_run_set hx h] at h1
    exact List.pairwise_map.1 h1
theorem okS_groom {x : Surf} {t : Int} (hx : okS x) (h : ¬ (t < x.groomed ∨ 20000000 < t ∨ t < 0)) : okS ⟨x.run, t, 0⟩ := by
  obtain ⟨h1, h2, h3, h4, h5, h6⟩ := hx
  exact ⟨h1, h2, by show -1 ≤ t; omega, by show t ≤ 20000000; omega, by show (0 : Int) ≤ 0; omega, by show (0 : Int) ≤ 1000000; omega⟩
theorem okS_descend {x : Surf} {n : Int} (hx : okS x) (h : ¬ (n < 0 ∨ 10000 < n)) : okS ⟨x.run, x.groomed, capT (x.traffic + n)⟩ := by
  obtain ⟨h1, h2, h3, h4, h5, h6⟩ := hx
  exact ⟨h1, h2, h3, h4, by show 0 ≤ capT (x.traffic + n); unfold capT; omega, by show capT (x.traffic + n) ≤ 1000000; unfold capT; omega⟩
theorem descend_length_le (xs : List Surf) (run n : Int) : (descend xs run n).1.length ≤ xs.length := by
  rcases idx_some xs run with h | ⟨i, x, h1, h2, _⟩
  · rw [descend_none h]; simp
  · by_cases hb : n < 0 ∨ 10000 < n
    · rw [descend_bad h1 h2 hb]; simp
    · rw [descend_ok h1 h2 hb]; simp

theorem twice_law {xs : List Surf} (hr : right xs = 0) (run n m : Int) (n0 : 0 ≤ n) (n1 : n ≤ 5000) (m0 : 0 ≤ m) (m1 : m ≤ 5000) : (∃ (i : Nat) (x : Surf), idx xs run = i ∧ xs[i]? = some x) →
    descend xs run n = ((descend xs run n).1, 0) ∧ ((∀ y ∈ (descend xs run n).1, okS y) ∧ descend (descend xs run n).1 run m = ((descend xs run (n + m)).1, 0)) ∧ descend xs run (n + m) = ((descend xs run (n + m)).1, 0) := by
  rintro ⟨i, x, h1, h2⟩
  have hx := (right_ok hr).2.1 x (List.mem_of_getElem? h2)
  have hl := (List.getElem?_eq_some_iff.1 h2).1
  rw [descend_ok h1 h2 (show ¬ (n < 0 ∨ 10000 < n) by omega), descend_ok h1 h2 (show ¬ (n + m < 0 ∨ 10000 < n + m) by omega)]
  refine ⟨rfl, ⟨?_, ?_⟩, rfl⟩
  · exact (right_ok (right_set hr h2 (okS_descend hx (n := n) (by omega)) rfl)).2.1
  · have h3 : idx (xs.set i ⟨x.run, x.groomed, capT (x.traffic + n)⟩) run = i := by rw [idx_set (y := ⟨x.run, x.groomed, capT (x.traffic + n)⟩) run h2 rfl, h1]
    rw [descend_ok h3 (x := ⟨x.run, x.groomed, capT (x.traffic + n)⟩) (by simp [hl]) (by omega)]
    have e : capT (capT (x.traffic + n) + m) = capT (x.traffic + (n + m)) := by
      have := hx.2.2.2.2.2; unfold capT; omega
    rw [e, List.set_set]

theorem quality_mono {x : Surf} {t u : Int} (hx : okS x) (hg : x.groomed ≤ t) (h : t ≤ u) : quality x u ≤ quality x t := by
  obtain ⟨_, _, h3, h4, h5, h6⟩ := hx
  unfold quality
  by_cases h0 : x.groomed < 0
  · rw [if_pos (.inl h0), if_pos (.inl h0)]; omega
  · rw [if_neg (by omega), if_neg (by omega)]
    have : (t - x.groomed) / 3600 ≤ (u - x.groomed) / 3600 := Int.ediv_le_ediv (by omega) (by omega)
    omega
theorem quality_descend {x : Surf} {t n : Int} (hx : okS x) (hn : 0 ≤ n) : quality ⟨x.run, x.groomed, capT (x.traffic + n)⟩ t ≤ quality x t := by
  obtain ⟨_, _, h3, h4, h5, h6⟩ := hx
  unfold quality
  by_cases h0 : x.groomed < 0 ∨ t < x.groomed
  · rw [if_pos h0, if_pos h0]; omega
  · rw [if_neg h0, if_neg h0]
    have hc : x.traffic ≤ capT (x.traffic + n) := by unfold capT; omega
    have : x.traffic / 4 ≤ capT (x.traffic + n) / 4 := Int.ediv_le_ediv (by omega) hc
    show max 0 (1000 - capT (x.traffic + n) / 4 - 10 * ((t - x.groomed) / 3600)) ≤ max 0 (1000 - x.traffic / 4 - 10 * ((t - x.groomed) / 3600))
    omega
theorem quality_new {r t : Int} (h : 0 ≤ t) : quality ⟨r, t, 0⟩ t = 1000 := by
  unfold quality; rw [if_neg (by show ¬ (t < 0 ∨ t < t); omega)]; simp; decide

/-- One surface: what Descend and Groom give. -/
theorem descend_one {x : Surf} (hx : okS x) (n t : Int) : (descend [x] x.run n).2 ≠ 0 ∧ (∃ er, descend [x] x.run n = ([], er) ∧ (er = 2)) ∨ ∃ y, descend [x] x.run n = ([y], 0) ∧ okS y ∧ quality y t ≤ quality x t := by
  have hi : idx [x] x.run = ((0 : Nat) : Int) := by simp [idx, idxFrom]
  by_cases hb : n < 0 ∨ 10000 < n
  · left; rw [descend_bad hi (x := x) rfl hb]; exact ⟨by decide, 2, rfl, rfl⟩
  · right; exact ⟨_, by rw [descend_ok hi (x := x) rfl hb]; rfl, okS_descend hx hb, quality_descend hx (by omega)⟩
theorem groom_one {x : Surf} (hx : okS x) (t : Int) : groom [x] x.run t = ([], 11) ∨ ∃ y, groom [x] x.run t = ([y], 0) ∧ okS y ∧ quality y t = 1000 := by
  have hi : idx [x] x.run = ((0 : Nat) : Int) := by simp [idx, idxFrom]
  by_cases hb : t < x.groomed ∨ 20000000 < t ∨ t < 0
  · left; exact groom_bad hi (x := x) rfl hb
  · right; exact ⟨_, by rw [groom_ok hi (x := x) rfl hb]; rfl, okS_groom hx hb, quality_new (by omega)⟩

theorem set_at {xs : List Surf} {i : Nat} {x y : Surf} {run : Int} (hx : xs[i]? = some x) (hr : x.run = run) (hy : y.run = x.run) (k : Nat) (z : Surf) (hz : xs[k]? = some z) :
    ∃ a, (xs.set i y)[k]? = some a ∧ a.run = z.run ∧ True ∧ (¬ z.run = run → a = z) := by
  rw [List.getElem?_set]
  by_cases h : i = k
  · subst h
    have hl := (List.getElem?_eq_some_iff.1 hx).1
    obtain rfl : x = z := by rw [hx] at hz; exact Option.some.inj hz
    exact ⟨y, by simp [hl], hy, trivial, fun h => absurd hr h⟩
  · exact ⟨z, by simp [h, hz], rfl, trivial, fun _ => rfl⟩
theorem set_at2 {xs : List Surf} {i : Nat} {x y : Surf} {run : Int} (hx : xs[i]? = some x) (hr : x.run = run) (hy : y.run = x.run) (hg : y.groomed = x.groomed) (k : Nat) (z : Surf) (hz : xs[k]? = some z) :
    ∃ a, (xs.set i y)[k]? = some a ∧ a.run = z.run ∧ a.groomed = z.groomed ∧ (¬ z.run = run → a = z) := by
  rw [List.getElem?_set]
  by_cases h : i = k
  · subst h
    have hl := (List.getElem?_eq_some_iff.1 hx).1
    obtain rfl : x = z := by rw [hx] at hz; exact Option.some.inj hz
    exact ⟨y, by simp [hl], hy, hg, fun h => absurd hr h⟩
  · exact ⟨z, by simp [h, hz], rfl, rfl, fun _ => rfl⟩
end Go.Proofs.Ytgjcoebfiangcaa
