/- Rides: plain facts of merging for the laws. -/
import Derived.Test.YtfghmpfiemmbgaaG2
namespace Go.Proofs.Ytfghmpfiemmbgaa
open Go.RowKit

theorem IsMerge.len {a b m : List Ride} (ha : Sorted a) (hb : Sorted b) (h : IsMerge a b m) : m.length ≤ a.length + b.length := by
  obtain ⟨ys, hp, hs⟩ := exists_sorted (a ++ b.filter (fresh a))
  have hm := isMerge_of ha hb (agree_iff.2 h.agree) hp hs
  rw [h.uniq hm, hp.length_eq, List.length_append]
  have := List.length_filter_le (fresh a) b
  omega
theorem IsMerge.ge {a b m : List Ride} (ha : Sorted a) (hb : Sorted b) (h : IsMerge a b m) : a.length ≤ m.length := by
  obtain ⟨ys, hp, hs⟩ := exists_sorted (a ++ b.filter (fresh a))
  have hm := isMerge_of ha hb (agree_iff.2 h.agree) hp hs
  rw [h.uniq hm, hp.length_eq, List.length_append]
  omega
theorem merge_exists {a b : List Ride} (ha : Sorted a) (hb : Sorted b) (h : ¬ conflict a b) : ∃ m, IsMerge a b m := by
  obtain ⟨ys, hp, hs⟩ := exists_sorted (a ++ b.filter (fresh a))
  exact ⟨ys, isMerge_of ha hb (agree_iff.2 h) hp hs⟩
theorem mergeLE_bad {a b : List Ride} (ha : Sorted a) (hb : Sorted b) (h : conflict a b) : mergeL a b = [] ∧ mergeE a b = 15 := by
  unfold mergeL mergeE; rw [mergeF_conflict ha hb h]; exact ⟨rfl, rfl⟩
theorem mergeLE_full {a b m : List Ride} (ha : Sorted a) (hb : Sorted b) (h : IsMerge a b m) (hl : 2000 < m.length) : mergeL a b = [] ∧ mergeE a b = 9 := by
  unfold mergeL mergeE; rw [mergeF_merge ha hb h, if_pos hl]; exact ⟨rfl, rfl⟩
theorem mergeLE_ok {a b m : List Ride} (ha : Sorted a) (hb : Sorted b) (h : IsMerge a b m) (hl : m.length ≤ 2000) : mergeL a b = m ∧ mergeE a b = 0 := by
  unfold mergeL mergeE; rw [mergeF_merge ha hb h, if_neg (by omega)]; exact ⟨rfl, rfl⟩
theorem mergeT_bad {a b : List Ride} (ha : Sorted a) (hb : Sorted b) (h : conflict a b) : mergeT (a, b) = .tup [L 7 [], I 15] := by
  obtain ⟨h1, h2⟩ := mergeLE_bad ha hb h
  show SV.tup [L 7 ((mergeL a b).map encR), I (mergeE a b)] = _
  rw [h1, h2]; rfl
theorem mergeT_ok {a b m : List Ride} (ha : Sorted a) (hb : Sorted b) (h : IsMerge a b m) (hl : m.length ≤ 2000) : mergeT (a, b) = .tup [L 7 (m.map encR), I 0] := by
  obtain ⟨h1, h2⟩ := mergeLE_ok ha hb h hl
  show SV.tup [L 7 ((mergeL a b).map encR), I (mergeE a b)] = _
  rw [h1, h2]
theorem conflict_swap {a b : List Ride} (h : conflict a b) : conflict b a := by
  obtain ⟨r, hr, s, hs, hk, hne⟩ := h; exact ⟨s, hs, r, hr, hk.symm, fun e => hne e.symm⟩
theorem conflict_merge {a b m c : List Ride} (h : IsMerge a b m) : conflict m c ↔ conflict a c ∨ conflict b c := by
  constructor
  · rintro ⟨r, hr, s, hs, hk, hne⟩
    rcases (h.2 s).1 hs with hs | hs
    · exact .inl ⟨r, hr, s, hs, hk, hne⟩
    · exact .inr ⟨r, hr, s, hs, hk, hne⟩
  · rintro (⟨r, hr, s, hs, hk, hne⟩ | ⟨r, hr, s, hs, hk, hne⟩)
    · exact ⟨r, hr, s, (h.2 s).2 (.inl hs), hk, hne⟩
    · exact ⟨r, hr, s, (h.2 s).2 (.inr hs), hk, hne⟩
theorem conflict_merge' {a b m c : List Ride} (h : IsMerge a b m) : conflict c m ↔ conflict c a ∨ conflict c b := by
  constructor
  · intro h1
    rcases (conflict_merge h).1 (conflict_swap h1) with h | h
    · exact .inl (conflict_swap h)
    · exact .inr (conflict_swap h)
  · intro h1
    apply conflict_swap
    apply (conflict_merge h).2
    rcases h1 with h | h
    · exact .inl (conflict_swap h)
    · exact .inr (conflict_swap h)
theorem isMerge_self {a : List Ride} (ha : Sorted a) : IsMerge a a a := ⟨ha, by simp⟩
theorem isMerge_nil {a : List Ride} (ha : Sorted a) : IsMerge a [] a := ⟨ha, by simp⟩
theorem isMerge_assoc {a b c m n x : List Ride} (h1 : IsMerge a b m) (h2 : IsMerge b c n) (h3 : IsMerge m c x) : IsMerge a n x :=
  ⟨h3.1, fun y => by rw [h3.2, h1.2, h2.2, or_assoc]⟩
theorem isMerge_right {a b m : List Ride} (h : IsMerge a b m) (ha : ∀ x ∈ a, okR x) (hb : ∀ x ∈ b, okR x) (hl : m.length ≤ 2000) : right m = 0 :=
  right_of hl (fun x hx => ((h.2 x).1 hx).elim (ha x) (hb x)) h.1
theorem right_one (r : Ride) : right [r] = 0 ↔ okR r := by
  constructor
  · intro h; exact (right_ok h).2.1 r (by simp)
  · intro h; exact right_of (by simp) (by simpa using h) (by simp)
theorem addT_bad {s : List Ride} {r : Ride} (h : ¬ okR r) : addT (s, r) = .tup [L 7 [], B false, I 2] := by
  have : okRb r = false := decide_eq_false h
  show SV.tup [L 7 ((addL s r).map encR), B (addB s r), I (addE s r)] = _
  unfold addL addB addE; rw [this]; rfl
theorem addT_conflict {s : List Ride} {r : Ride} (h : okR r) (hs : Sorted s) (hc : conflict s [r]) : addT (s, r) = .tup [L 7 [], B false, I 15] := by
  have : okRb r = true := decide_eq_true h
  obtain ⟨h1, h2⟩ := mergeLE_bad hs (by simp) hc
  show SV.tup [L 7 ((addL s r).map encR), B (addB s r), I (addE s r)] = _
  unfold addL addB addE; rw [this]; dsimp only; rw [mergeF_conflict hs (by simp) hc, h1, h2]; rfl
theorem addT_ok {s m : List Ride} {r : Ride} (h : okR r) (hs : Sorted s) (hm : IsMerge s [r] m) (hl : m.length ≤ 2000) : addT (s, r) = .tup [L 7 (m.map encR), B (decide (s.length < m.length)), I 0] := by
  have : okRb r = true := decide_eq_true h
  obtain ⟨h1, h2⟩ := mergeLE_ok hs (by simp) hm hl
  show SV.tup [L 7 ((addL s r).map encR), B (addB s r), I (addE s r)] = _
  unfold addL addB addE; rw [this]; dsimp only; rw [mergeF_merge hs (by simp) hm, h1, h2, if_neg (by omega)]
theorem addT_full {s m : List Ride} {r : Ride} (h : okR r) (hs : Sorted s) (hm : IsMerge s [r] m) (hl : 2000 < m.length) : addT (s, r) = .tup [L 7 [], B false, I 9] := by
  have : okRb r = true := decide_eq_true h
  obtain ⟨h1, h2⟩ := mergeLE_full hs (by simp) hm hl
  show SV.tup [L 7 ((addL s r).map encR), B (addB s r), I (addE s r)] = _
  unfold addL addB addE; rw [this]; dsimp only; rw [mergeF_merge hs (by simp) hm, h1, h2, if_pos (by omega)]; rfl
end Go.Proofs.Ytfghmpfiemmbgaa
