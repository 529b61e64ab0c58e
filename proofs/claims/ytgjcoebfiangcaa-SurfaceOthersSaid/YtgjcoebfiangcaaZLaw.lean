/- Plain laws of surfaces: no program in sight. -/
import Derived.Test.YtgjcoebfiangcaaZPlain
namespace Go.Proofs.Ytgjcoebfiangcaa.Old

theorem rightFrom_ok : ∀ (xs : List Surf) (p : Int), rightFrom p xs = 0 → (∀ x ∈ xs, okS x) ∧ (∀ x ∈ xs, p < x.run) ∧ xs.Pairwise (fun a b => a.run < b.run)
  | [], p, _ => by simp
  | x :: r, p, h => by
    rw [rightFrom] at h
    by_cases h1 : okS x
    · rw [if_pos h1] at h
      by_cases h2 : x.run ≤ p
      · rw [if_pos h2] at h; omega
      · rw [if_neg h2] at h
        obtain ⟨a, b, c⟩ := rightFrom_ok r x.run h
        refine ⟨?_, ?_, List.pairwise_cons.2 ⟨b, c⟩⟩
        · intro y hy; rcases List.mem_cons.1 hy with rfl | hy
          · exact h1
          · exact a y hy
        · intro y hy; rcases List.mem_cons.1 hy with rfl | hy
          · omega
          · have := b y hy; omega
    · rw [if_neg h1] at h; omega
theorem rightFrom_of : ∀ (xs : List Surf) (p : Int), (∀ x ∈ xs, okS x) → (∀ x ∈ xs, p < x.run) → xs.Pairwise (fun a b => a.run < b.run) → rightFrom p xs = 0
  | [], p, _, _, _ => rfl
  | x :: r, p, h1, h2, h3 => by
    rw [rightFrom, if_pos (h1 x (by simp)), if_neg (by have := h2 x (by simp); omega)]
    obtain ⟨a, b⟩ := List.pairwise_cons.1 h3
    exact rightFrom_of r x.run (fun y hy => h1 y (by simp [hy])) a b
theorem right_ok {xs : List Surf} (h : right xs = 0) : xs.length ≤ 64 ∧ (∀ x ∈ xs, okS x) ∧ xs.Pairwise (fun a b => a.run < b.run) := by
  rw [right] at h
  by_cases hl : 64 < xs.length
  · rw [if_pos hl] at h; omega
  · rw [if_neg hl] at h
    obtain ⟨a, _, c⟩ := rightFrom_ok xs 0 h
    exact ⟨by omega, a, c⟩
theorem right_of {xs : List Surf} (hl : xs.length ≤ 64) (h1 : ∀ x ∈ xs, okS x) (h2 : xs.Pairwise (fun a b => a.run < b.run)) : right xs = 0 := by
  rw [right, if_neg (by omega)]
  exact rightFrom_of xs 0 h1 (fun x hx => by have := (h1 x hx).1; omega) h2

theorem quality_ge (x : Surf) (t : Int) : 0 ≤ quality x t := by unfold quality; split <;> omega
theorem quality_le (x : Surf) (t : Int) (h : okS x) : quality x t ≤ 1000 := by
  obtain ⟨_, _, _, _, h1, _⟩ := h
  unfold quality; split
  · omega
  · have : 0 ≤ (t - x.groomed) / 3600 := by omega
    omega

theorem filter_or_perm {α : Type} (p q : α → Bool) (hd : ∀ x, p x = true → q x = false) : ∀ xs : List α, (xs.filter p ++ xs.filter q).Perm (xs.filter fun x => p x || q x)
  | [] => .refl _
  | x :: r => by
    have ih := filter_or_perm p q hd r
    cases hp : p x with
    | true =>
      have hq := hd x hp
      simp [hp, hq]; exact ih
    | false =>
      cases hq : q x with
      | true =>
        simp [hp, hq]
        exact List.perm_middle.trans (.cons _ ih)
      | false => simp [hp, hq]; exact ih

def bucketS (xs : List Surf) (t q : Int) : List Surf := xs.filter fun x => quality x t == q
def worstToS (xs : List Surf) (t : Int) : Nat → List Surf
  | 0 => []
  | q + 1 => worstToS xs t q ++ bucketS xs t q
theorem worstToS_map (xs : List Surf) (t : Int) : ∀ q, (worstToS xs t q).map (·.run) = worstTo xs t q
  | 0 => rfl
  | q + 1 => by rw [worstToS, List.map_append, worstToS_map, worstTo, bucket, bucketS]
theorem worstToS_perm (xs : List Surf) (t : Int) : ∀ q : Nat, (worstToS xs t q).Perm (xs.filter fun x => decide (quality x t < q))
  | 0 => by
    have : (xs.filter fun x => decide (quality x t < (0 : Nat))) = [] := by
      rw [List.filter_eq_nil_iff]; intro x _; have := quality_ge x t; simp; omega
    rw [this]; exact .refl _
  | q + 1 => by
    rw [worstToS]
    refine ((worstToS_perm xs t q).append_right _).trans ?_
    refine (filter_or_perm _ _ (fun x h => ?_) xs).trans ?_
    · simp at h ⊢; omega
    · have : (fun x : Surf => decide (quality x t < ((q + 1 : Nat) : Int))) = fun x => decide (quality x t < (q : Int)) || quality x t == (q : Int) := by
        funext x; rw [Bool.eq_iff_iff]; simp; omega
      rw [this]
theorem worstToS_mem {xs : List Surf} {t : Int} {q : Nat} {x : Surf} (h : x ∈ worstToS xs t q) : x ∈ xs ∧ quality x t < q := by
  have := (worstToS_perm xs t q).mem_iff.1 h
  simpa using this
theorem worstToS_sorted (xs : List Surf) (t : Int) (hs : xs.Pairwise (fun a b => a.run < b.run)) : ∀ q, (worstToS xs t q).Pairwise (fun a b => 0 ≤ cmpQ t b a)
  | 0 => .nil
  | q + 1 => by
    rw [worstToS, List.pairwise_append]
    have hn : ∀ a b : Surf, 0 ≤ cmpQ t b a ↔ ¬ (quality b t < quality a t ∨ quality b t = quality a t ∧ b.run < a.run) := by
      intro a b; rw [← cmpQ_lt]; omega
    refine ⟨worstToS_sorted xs t hs q, ?_, ?_⟩
    · refine (hs.filter (fun x => quality x t == (q : Int))).imp_of_mem ?_
      intro a b ha hb hab
      have h1 := (List.mem_filter.1 ha).2
      have h2 := (List.mem_filter.1 hb).2
      simp at h1 h2
      rw [hn]; omega
    · intro a ha b hb
      have h1 := (worstToS_mem ha).2
      have h2 := (List.mem_filter.1 hb).2
      simp at h2
      rw [hn]; omega

theorem pairwise_inj {xs : List Surf} (hs : xs.Pairwise (fun a b => a.run < b.run)) {a b : Surf} (ha : a ∈ xs) (hb : b ∈ xs) (h : a.run = b.run) : a = b := by
  induction hs with
  | nil => simp at ha
  | cons h1 h2 ih =>
    rcases List.mem_cons.1 ha with rfl | ha'
    · rcases List.mem_cons.1 hb with rfl | hb'
      · rfl
      · have := h1 b hb'; omega
    · rcases List.mem_cons.1 hb with rfl | hb'
      · have := h1 a ha'; omega
      · exact ih ha' hb'

/-- A sorted permutation of the runs of less quality is what the document says. -/
theorem worst_eq {xs ys : List Surf} {t least : Int} (hr : right xs = 0) (hp : ys.Perm (xs.filter fun x => !decide (least ≤ quality x t))) (hs : ys.Pairwise (fun a b => 0 ≤ cmpQ t b a)) : ys.map (·.run) = worst xs t least := by
  obtain ⟨_, hok, hpw⟩ := right_ok hr
  have hf : (xs.filter fun x => !decide (least ≤ quality x t)) = xs.filter fun x => decide (quality x t < ((min 1001 (max 0 least)).toNat : Int)) := by
    apply List.filter_congr
    intro x hx
    have h1 := quality_ge x t
    have h2 := quality_le x t (hok x hx)
    rw [Bool.eq_iff_iff]; simp; omega
  have hp2 : ys.Perm (worstToS xs t (min 1001 (max 0 least)).toNat) := by
    rw [hf] at hp; exact hp.trans (worstToS_perm xs t _).symm
  have hn : ∀ a b : Surf, 0 ≤ cmpQ t b a ↔ ¬ (quality b t < quality a t ∨ quality b t = quality a t ∧ b.run < a.run) := by
    intro a b; rw [← cmpQ_lt]; omega
  have he : ys = worstToS xs t (min 1001 (max 0 least)).toNat := by
    refine List.Perm.eq_of_pairwise (le := fun a b => 0 ≤ cmpQ t b a) ?_ hs (worstToS_sorted xs t hpw _) hp2
    intro a b ha hb h1 h2
    have ha' := (worstToS_mem (hp2.mem_iff.1 ha)).1
    have hb' := (worstToS_mem hb).1
    rw [hn] at h1 h2
    exact pairwise_inj hpw ha' hb' (by omega)
  rw [he, worstToS_map]; rfl

theorem right_one (x : Surf) (h : ¬ right [x] = 0) : right [x] = 2 := by
  simp only [right, List.length_singleton, rightFrom] at h ⊢
  by_cases hx : okS x
  · have := hx.1
    rw [if_pos hx, if_neg (show ¬ x.run ≤ 0 by omega)] at h
    simp at h
  · simp [hx]
end Go.Proofs.Ytgjcoebfiangcaa.Old
