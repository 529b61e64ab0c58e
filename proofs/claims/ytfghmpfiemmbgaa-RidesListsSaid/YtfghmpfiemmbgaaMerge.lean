/- Plain facts of merging stores of rides: no program in sight. -/
import Derived.Test.YtfghmpfiemmbgaaPlain
namespace Go.Proofs.Ytfghmpfiemmbgaa

def key (r : Ride) : Int × Int := (r.gate, r.seq)
theorem key_eq {a b : Ride} : key a = key b ↔ a.gate = b.gate ∧ a.seq = b.seq := by simp [key]
theorem before_irrefl (a : Ride) : ¬ before a a := by unfold before; omega
theorem before_trans {a b c : Ride} (h1 : before a b) (h2 : before b c) : before a c := by unfold before at *; omega
theorem before_asymm {a b : Ride} (h1 : before a b) : ¬ before b a := by unfold before at *; omega
theorem before_tri (a b : Ride) : before a b ∨ before b a ∨ key a = key b := by rw [key_eq]; unfold before; omega
theorem before_key {a b : Ride} (h : before a b) : key a ≠ key b := by rw [Ne, key_eq]; unfold before at h; omega

abbrev Sorted (l : List Ride) : Prop := l.Pairwise before

theorem sorted_inj {l : List Ride} (hs : Sorted l) {a b : Ride} (ha : a ∈ l) (hb : b ∈ l) (h : key a = key b) : a = b := by
  induction hs with
  | nil => simp at ha
  | cons h1 h2 ih =>
    rcases List.mem_cons.1 ha with rfl | ha'
    · rcases List.mem_cons.1 hb with rfl | hb'
      · rfl
      · exact absurd h (before_key (h1 b hb'))
    · rcases List.mem_cons.1 hb with rfl | hb'
      · exact absurd h.symm (before_key (h1 a ha'))
      · exact ih ha' hb'
theorem sorted_nodup {l : List Ride} (hs : Sorted l) : l.Nodup := List.Pairwise.imp (R := before) (S := (· ≠ ·)) (fun {a b} h e => by subst e; exact before_irrefl _ h) hs
theorem sorted_ext {l m : List Ride} (hl : Sorted l) (hm : Sorted m) (h : ∀ x, x ∈ l ↔ x ∈ m) : l = m := by
  refine List.Perm.eq_of_pairwise (le := before) (fun a b _ _ h1 h2 => absurd h2 (before_asymm h1)) hl hm ?_
  exact (List.perm_ext_iff_of_nodup (sorted_nodup hl) (sorted_nodup hm)).2 h

theorem rightFrom_ok : ∀ (xs : List Ride) (p : Option Ride), rightFrom p xs = 0 → (∀ x ∈ xs, okR x) ∧ (∀ q, p = some q → ∀ x ∈ xs, before q x) ∧ Sorted xs
  | [], p, _ => by simp
  | x :: r, p, h => by
    rw [rightFrom] at h
    by_cases h1 : okR x
    · rw [if_pos h1] at h
      by_cases h2 : follows p x
      · rw [if_pos h2] at h
        obtain ⟨a, b, c⟩ := rightFrom_ok r (some x) h
        refine ⟨?_, ?_, List.pairwise_cons.2 ⟨b x rfl, c⟩⟩
        · intro y hy; rcases List.mem_cons.1 hy with rfl | hy
          · exact h1
          · exact a y hy
        · rintro q rfl y hy
          have h2' : before q x := h2
          rcases List.mem_cons.1 hy with rfl | hy
          · exact h2'
          · exact before_trans h2' (b x rfl y hy)
      · rw [if_neg h2] at h; omega
    · rw [if_neg h1] at h; omega
theorem rightFrom_of : ∀ (xs : List Ride) (p : Option Ride), (∀ x ∈ xs, okR x) → (∀ q, p = some q → ∀ x ∈ xs, before q x) → Sorted xs → rightFrom p xs = 0
  | [], p, _, _, _ => rfl
  | x :: r, p, h1, h2, h3 => by
    have hf : follows p x := by
      cases p with
      | none => trivial
      | some q => exact h2 q rfl x (by simp)
    rw [rightFrom, if_pos (h1 x (by simp)), if_pos hf]
    obtain ⟨a, b⟩ := List.pairwise_cons.1 h3
    refine rightFrom_of r (some x) (fun y hy => h1 y (by simp [hy])) ?_ b
    rintro q hq; obtain rfl := Option.some.inj hq; exact a
theorem right_ok {xs : List Ride} (h : right xs = 0) : xs.length ≤ 2000 ∧ (∀ x ∈ xs, okR x) ∧ Sorted xs := by
  rw [right] at h
  by_cases hl : 2000 < xs.length
  · rw [if_pos hl] at h; omega
  · rw [if_neg hl] at h
    obtain ⟨a, _, c⟩ := rightFrom_ok xs none h
    exact ⟨by omega, a, c⟩
theorem right_of {xs : List Ride} (hl : xs.length ≤ 2000) (h1 : ∀ x ∈ xs, okR x) (h2 : Sorted xs) : right xs = 0 := by
  rw [right, if_neg (by omega)]
  exact rightFrom_of xs none h1 (by simp) h2

/-- Two stores have different rides with the same Gate and Seq. -/
def conflict (a b : List Ride) : Prop := ∃ r ∈ b, ∃ s ∈ a, key s = key r ∧ s ≠ r
/-- The rides of both stores, each once, in order. -/
def IsMerge (a b l : List Ride) : Prop := Sorted l ∧ ∀ x, x ∈ l ↔ x ∈ a ∨ x ∈ b
theorem IsMerge.uniq {a b l m : List Ride} (hl : IsMerge a b l) (hm : IsMerge a b m) : l = m := sorted_ext hl.1 hm.1 fun x => (hl.2 x).trans (hm.2 x).symm
/-- What Merge returns. -/
def MergeRes (a b l : List Ride) (e : Int) : Prop :=
  (conflict a b ∧ e = 15 ∧ l = []) ∨ (¬ conflict a b ∧ ∃ m, IsMerge a b m ∧ ((2000 < m.length ∧ e = 9 ∧ l = []) ∨ (m.length ≤ 2000 ∧ e = 0 ∧ l = m)))
theorem MergeRes.uniq {a b l m : List Ride} {e f : Int} (h : MergeRes a b l e) (k : MergeRes a b m f) : l = m ∧ e = f := by
  rcases h with ⟨h1, rfl, rfl⟩ | ⟨h1, x, hx, h2⟩
  · rcases k with ⟨_, rfl, rfl⟩ | ⟨k1, _⟩
    · exact ⟨rfl, rfl⟩
    · exact absurd h1 k1
  · rcases k with ⟨k1, _⟩ | ⟨_, y, hy, k2⟩
    · exact absurd k1 h1
    · obtain rfl := hx.uniq hy
      rcases h2 with ⟨a1, rfl, rfl⟩ | ⟨a1, rfl, rfl⟩ <;> rcases k2 with ⟨b1, rfl, rfl⟩ | ⟨b1, rfl, rfl⟩ <;> first | exact ⟨rfl, rfl⟩ | omega

/-- The ride's key is not among those of a. -/
def fresh (a : List Ride) (r : Ride) : Bool := !(a.any fun s => decide (key s = key r))
theorem fresh_iff {a : List Ride} {r : Ride} : fresh a r = true ↔ ∀ s ∈ a, key s ≠ key r := by simp [fresh]
def agree (a b : List Ride) : Prop := ∀ r ∈ b, ∀ s ∈ a, key s = key r → s = r
theorem agree_iff {a b : List Ride} : agree a b ↔ ¬ conflict a b := by
  unfold agree conflict
  constructor
  · rintro h ⟨r, hr, s, hs, hk, hne⟩; exact hne (h r hr s hs hk)
  · intro h r hr s hs hk
    exact Decidable.byContradiction fun hne => h ⟨r, hr, s, hs, hk, hne⟩
/-- A sorted permutation of what Merge collects is the merge. -/
theorem isMerge_of {a b ys : List Ride} (ha : Sorted a) (hb : Sorted b) (hag : agree a b) (hp : ys.Perm (a ++ b.filter (fresh a))) (hs : ys.Pairwise (fun x y => ¬ before y x)) : IsMerge a b ys := by
  have hmem : ∀ x, x ∈ ys ↔ x ∈ a ∨ x ∈ b := by
    intro x
    rw [hp.mem_iff, List.mem_append, List.mem_filter]
    constructor
    · rintro (h | ⟨h, _⟩)
      · exact .inl h
      · exact .inr h
    · rintro (h | h)
      · exact .inl h
      · by_cases hf : fresh a x = true
        · exact .inr ⟨h, hf⟩
        · left
          rw [fresh_iff] at hf
          simp only [Classical.not_forall] at hf
          obtain ⟨s, hs', hk⟩ := hf
          have hk' := Classical.not_not.1 hk
          obtain rfl := hag x h s hs' hk'
          exact hs'
  refine ⟨?_, hmem⟩
  have hnd : (a ++ b.filter (fresh a)).Pairwise (fun x y => key x ≠ key y) := by
    rw [List.pairwise_append]
    refine ⟨ha.imp fun h => before_key h, (hb.filter _).imp fun h => before_key h, ?_⟩
    intro x hx y hy
    exact fresh_iff.1 (List.mem_filter.1 hy).2 x hx
  have hnd' : ys.Pairwise (fun x y => key x ≠ key y) := (hp.pairwise_iff (fun h e => h e.symm)).2 hnd
  refine (hs.and hnd').imp ?_
  · intro x y ⟨h1, h2⟩
    rcases before_tri x y with h | h | h
    · exact h
    · exact absurd h h1
    · exact absurd h h2

theorem IsMerge.agree {a b l : List Ride} (h : IsMerge a b l) : ¬ conflict a b := by
  rintro ⟨r, hr, s, hs, hk, hne⟩
  exact hne (sorted_inj h.1 ((h.2 s).2 (.inl hs)) ((h.2 r).2 (.inr hr)) hk)

/-- What the reference's Merge knows after i rides of a and k of b. -/
structure MInv (a b : List Ride) (i k : Nat) (out : List Ride) : Prop where
  sorted : Sorted out
  mem : ∀ x, x ∈ out ↔ x ∈ a.take i ∨ x ∈ b.take k
  lowA : ∀ x ∈ out, ∀ y ∈ a.drop i, before x y
  lowB : ∀ x ∈ out, ∀ y ∈ b.drop k, before x y
  len : out.length ≤ i + k
theorem MInv.start (a b : List Ride) : MInv a b 0 0 [] := ⟨.nil, by simp, by simp, by simp, by simp⟩
theorem Sorted.head {l : List Ride} (h : Sorted l) {k : Nat} {x : Ride} (hx : l[k]? = some x) : ∀ y ∈ l.drop (k + 1), before x y := by
  have h1 : Sorted (l.drop k) := h.sublist (List.drop_sublist _ _)
  rw [drop_of hx] at h1
  exact (List.pairwise_cons.1 h1).1
theorem Sorted.le_head {l : List Ride} (h : Sorted l) {k : Nat} {x y : Ride} (hx : l[k]? = some x) (hy : before y x) : ∀ z ∈ l.drop k, before y z := by
  intro z hz
  rw [drop_of hx] at hz
  rcases List.mem_cons.1 hz with rfl | hz
  · exact hy
  · exact before_trans hy (h.head hx z hz)
theorem snoc_sorted {out : List Ride} {x : Ride} (h : Sorted out) (hx : ∀ z ∈ out, before z x) : Sorted (out ++ [x]) := by
  refine List.pairwise_append.2 ⟨h, by simp, ?_⟩
  intro z hz y hy; simp at hy; subst hy; exact hx z hz
theorem MInv.stepA {a b out : List Ride} {i k : Nat} {x : Ride} (h : MInv a b i k out) (sa : Sorted a) (hx : a[i]? = some x) (hb : ∀ z ∈ b.drop k, before x z) : MInv a b (i + 1) k (out ++ [x]) := by
  have hxm : x ∈ a.drop i := by rw [drop_of hx]; simp
  refine ⟨snoc_sorted h.sorted fun z hz => h.lowA z hz x hxm, ?_, ?_, ?_, by have := h.len; simp; omega⟩
  · intro y; rw [List.mem_append, h.mem, take_snoc _ _ _ hx, List.mem_append]; simp only [List.mem_singleton]
    constructor
    · rintro ((h | h) | h)
      · exact .inl (.inl h)
      · exact .inr h
      · exact .inl (.inr h)
    · rintro ((h | h) | h)
      · exact .inl (.inl h)
      · exact .inr h
      · exact .inl (.inr h)
  · intro y hy z hz
    rcases List.mem_append.1 hy with hy | hy
    · exact h.lowA y hy z (by rw [drop_of hx]; exact List.mem_cons_of_mem _ hz)
    · simp at hy; subst hy; exact sa.head hx z hz
  · intro y hy z hz
    rcases List.mem_append.1 hy with hy | hy
    · exact h.lowB y hy z hz
    · simp at hy; subst hy; exact hb z hz
theorem MInv.swap {a b out : List Ride} {i k : Nat} (h : MInv a b i k out) : MInv b a k i out := ⟨h.sorted, fun x => (h.mem x).trans Or.comm, h.lowB, h.lowA, by have := h.len; omega⟩
theorem MInv.stepB {a b out : List Ride} {i k : Nat} {x : Ride} (h : MInv a b i k out) (sb : Sorted b) (hx : b[k]? = some x) (ha : ∀ z ∈ a.drop i, before x z) : MInv a b i (k + 1) (out ++ [x]) :=
  (h.swap.stepA sb hx ha).swap
theorem MInv.stepC {a b out : List Ride} {i k : Nat} {x : Ride} (h : MInv a b i k out) (sa : Sorted a) (sb : Sorted b) (hx : a[i]? = some x) (hy : b[k]? = some x) : MInv a b (i + 1) (k + 1) (out ++ [x]) := by
  have hxm : x ∈ a.drop i := by rw [drop_of hx]; simp
  refine ⟨snoc_sorted h.sorted fun z hz => h.lowA z hz x hxm, ?_, ?_, ?_, by have := h.len; simp; omega⟩
  · intro y; rw [List.mem_append, h.mem, take_snoc _ _ _ hx, take_snoc _ _ _ hy, List.mem_append, List.mem_append]; simp only [List.mem_singleton]
    constructor
    · rintro ((h | h) | h)
      · exact .inl (.inl h)
      · exact .inr (.inl h)
      · exact .inl (.inr h)
    · rintro ((h | h) | (h | h))
      · exact .inl (.inl h)
      · exact .inr h
      · exact .inl (.inr h)
      · exact .inr h
  · intro y hy' z hz
    rcases List.mem_append.1 hy' with hy' | hy'
    · exact h.lowA y hy' z (by rw [drop_of hx]; exact List.mem_cons_of_mem _ hz)
    · simp at hy'; subst hy'; exact sa.head hx z hz
  · intro y hy' z hz
    rcases List.mem_append.1 hy' with hy' | hy'
    · exact h.lowB y hy' z (by rw [drop_of hy]; exact List.mem_cons_of_mem _ hz)
    · simp at hy'; subst hy'; exact sb.head hy z hz
theorem MInv.done {a b out : List Ride} {i k : Nat} (h : MInv a b i k out) (hi : ¬ i < a.length) (hk : ¬ k < b.length) : IsMerge a b out :=
  ⟨h.sorted, fun x => by rw [h.mem, List.take_of_length_le (by omega), List.take_of_length_le (by omega)]⟩
theorem exists_sorted (l : List Ride) : ∃ ys : List Ride, ys.Perm l ∧ ys.Pairwise (fun x y => ¬ before y x) := by
  refine ⟨l.mergeSort (fun x y => !decide (before y x)), List.mergeSort_perm _ _, ?_⟩
  have h := List.pairwise_mergeSort (le := fun x y : Ride => !decide (before y x)) (fun a b c h1 h2 => by simp at *; unfold before at *; omega) (fun a b => by simp; unfold before; omega) l
  exact h.imp fun h => by simpa using h
theorem filter_hit {a b : List Ride} {k : Nat} {x : Ride} (hx : b[k]? = some x) (hf : fresh a x = true) : a ++ (b.take (k + 1)).filter (fresh a) = (a ++ (b.take k).filter (fresh a)) ++ [x] := by
  rw [take_snoc _ _ _ hx, List.filter_append]; simp [hf]
theorem filter_miss {a b : List Ride} {k : Nat} {x : Ride} (hx : b[k]? = some x) (hf : fresh a x = false) : a ++ (b.take (k + 1)).filter (fresh a) = a ++ (b.take k).filter (fresh a) := by
  rw [take_snoc _ _ _ hx, List.filter_append]; simp [hf]
theorem agree_snoc {a b : List Ride} {k : Nat} {x : Ride} (hx : b[k]? = some x) (h : agree a (b.take k)) (h1 : ∀ s ∈ a, key s = key x → s = x) : agree a (b.take (k + 1)) := by
  rw [take_snoc _ _ _ hx]
  intro r hr s hs hk
  rcases List.mem_append.1 hr with hr | hr
  · exact h r hr s hs hk
  · simp at hr; subst hr; exact h1 s hs hk
theorem conflict_of {a b : List Ride} {k : Nat} {x s : Ride} (hx : b[k]? = some x) (hs : s ∈ a) (hk : key s = key x) (hne : s ≠ x) : conflict a b := ⟨x, List.mem_of_getElem? hx, s, hs, hk, hne⟩
theorem fresh_len {a b : List Ride} (k : Nat) : (a ++ (b.take k).filter (fresh a)).length ≤ a.length + b.length := by
  have h := List.length_filter_le (fresh a) (b.take k)
  rw [List.length_append]; simp at h ⊢; omega
end Go.Proofs.Ytfghmpfiemmbgaa
