/- The clock: what holds of sets of times. Plain. -/
import Derived.Test.YtmehmnlhnbeeeaaP5
namespace Go.Proofs.Ytmehmnlhnbeeeaa

/-- How many of the first N numbers are in a set. -/
def cntP (p : Int → Bool) : Nat → Int
  | 0 => 0
  | n + 1 => cntP p n + if p n then 1 else 0
theorem cnt_congr {p q : Int → Bool} (h : ∀ t, p t = q t) : ∀ n, cntP p n = cntP q n
  | 0 => rfl
  | n + 1 => by rw [cntP, cntP, cnt_congr h n, h]
theorem cnt_sum (p q : Int → Bool) : ∀ n, cntP p n + cntP q n = cntP (fun t => p t || q t) n + cntP (fun t => p t && q t) n
  | 0 => rfl
  | n + 1 => by
    have := cnt_sum p q n
    simp only [cntP]
    by_cases hp : p n = true <;> by_cases hq : q n = true <;> simp [hp, hq] <;> omega
theorem cnt_le {p q : Int → Bool} (h : ∀ t, p t = true → q t = true) : ∀ n, cntP p n ≤ cntP q n
  | 0 => Int.le_refl _
  | n + 1 => by
    have := cnt_le h n
    have h' := h n
    simp only [cntP]
    cases hp : p n <;> cases hq : q n <;> simp_all <;> omega
theorem cnt_none {p : Int → Bool} (h : ∀ t, p t = false) : ∀ n, cntP p n = 0
  | 0 => rfl
  | n + 1 => by rw [cntP, cnt_none h n, h]; rfl
theorem cnt_ivl (a b : Int) (h0 : 0 ≤ a) (hab : a ≤ b) : ∀ n : Nat, cntP (fun t => decide (a ≤ t ∧ t < b)) n = if (n : Int) ≤ a then 0 else if (n : Int) ≤ b then (n : Int) - a else b - a
  | 0 => by rw [if_pos (by omega)]; rfl
  | n + 1 => by
    rw [cntP, cnt_ivl a b h0 hab n]
    simp only [decide_eq_true_eq]
    repeat' split
    all_goals omega
theorem plain_cnt (N : Nat) (hN : (N : Int) = 20000000) : ∀ m : List Ivl, Plain m → sumL m = cntP (fun t => decide (cov m t)) N
  | [], _ => by rw [cnt_none (fun t => decide_eq_false (cov_nil t))]; rfl
  | v :: r, hp => by
    have fv := hp.head
    have h1 := cnt_ivl v.frm v.to fv.1 (by have := fv.2.1; omega) N
    have h2 := cnt_sum (fun t => decide (v.frm ≤ t ∧ t < v.to)) (fun t => decide (cov r t)) N
    have h3 : cntP (fun t => decide (v.frm ≤ t ∧ t < v.to) && decide (cov r t)) N = 0 := by
      refine cnt_none (fun t => ?_) N
      by_cases hc : v.frm ≤ t ∧ t < v.to
      · have : ¬ cov r t := by
          rintro ⟨x, hx, _, h5, _⟩
          have := hp.lt x hx; omega
        simp [this]
      · rw [decide_eq_false hc]; rfl
    have h4 : cntP (fun t => decide (v.frm ≤ t ∧ t < v.to) || decide (cov r t)) N = cntP (fun t => decide (cov (v :: r) t)) N := by
      refine cnt_congr (fun t => ?_) N
      rw [← Bool.decide_or]
      congr 1
      rw [cov_cons]
      apply propext
      refine or_congr_left ⟨fun h => ⟨fv.valid, h⟩, fun h => h.2⟩
    rw [sumL, plain_cnt N hN r hp.tail]
    have := fv.2.2
    have := fv.2.1
    rw [h3, h4] at h2
    repeat' split at h1
    all_goals omega
theorem len_cnt (N : Nat) (hN : (N : Int) = 20000000) (l : List Ivl) : lenF l = cntP (fun t => decide (cov l t)) N := by
  rw [lenF, plain_cnt N hN _ (merge_spec l).1]
  exact cnt_congr (fun t => by rw [decide_eq_decide]; exact (merge_spec l).2 t) N
/-- What two sets have in common. -/
theorem common_cov (a b : List Ivl) (t : Int) : cov (minusF a (minusF a b)) t ↔ cov a t ∧ cov b t := by
  rw [(minus_spec a (minusF a b)).2, (minus_spec a b).2]
  constructor
  · rintro ⟨h1, h2⟩
    exact ⟨h1, Decidable.byContradiction fun h => h2 ⟨h1, h⟩⟩
  · rintro ⟨h1, h2⟩
    exact ⟨h1, fun h => h.2 h2⟩
theorem common_swap (a b : List Ivl) : minusF b (minusF b a) = minusF a (minusF a b) :=
  minus_uniq (minus_spec b (minusF b a)).1 fun t => by
    rw [common_cov, (minus_spec a b).2]
    constructor
    · rintro ⟨h1, h2⟩; exact ⟨h2, fun h => h.2 h1⟩
    · rintro ⟨h1, h2⟩; exact ⟨Decidable.byContradiction fun h => h2 ⟨h1, h⟩, h1⟩
theorem len_sum_aux (N : Nat) (hN : (N : Int) = 20000000) (a b : List Ivl) : lenF a + lenF b = lenF (a ++ b) + lenF (minusF a (minusF a b)) ∧ lenF (minusF a (minusF a b)) ≤ lenF a := by
  rw [len_cnt N hN a, len_cnt N hN b, len_cnt N hN (a ++ b), len_cnt N hN (minusF a (minusF a b))]
  have h1 : cntP (fun t => decide (cov (a ++ b) t)) N = cntP (fun t => decide (cov a t) || decide (cov b t)) N := cnt_congr (fun t => by rw [← Bool.decide_or, decide_eq_decide]; exact cov_append) N
  have h2 : cntP (fun t => decide (cov (minusF a (minusF a b)) t)) N = cntP (fun t => decide (cov a t) && decide (cov b t)) N := cnt_congr (fun t => by rw [← Bool.decide_and, decide_eq_decide]; exact common_cov a b t) N
  rw [h1, h2]
  exact ⟨cnt_sum _ _ N, cnt_le (fun t h => by simp at h ⊢; exact h.1) N⟩
theorem topN : ∃ N : Nat, (N : Int) = 20000000 := ⟨20000000, rfl⟩
theorem len_sum (a b : List Ivl) : lenF a + lenF b = lenF (a ++ b) + lenF (minusF a (minusF a b)) ∧ lenF (minusF a (minusF a b)) ≤ lenF a := by
  obtain ⟨N, hN⟩ := topN
  exact len_sum_aux N hN a b
theorem len_bd (l : List Ivl) : 0 ≤ lenF l ∧ lenF l ≤ 20000000 := by
  have := (merge_spec l).1.sum
  unfold lenF; omega
theorem cut_len (v : Ivl) : ∀ (H : List Ivl) (f : Int), (cutI f v H).length ≤ H.length + 1
  | [], f => by rw [cutI, tl]; split <;> simp
  | h :: r, f => by
    rw [cutI]
    split
    · rw [tl]; split <;> simp
    · have := cut_len v r h.to
      split <;> simp <;> omega
theorem fold_len : ∀ (A : List Ivl) (s : List Ivl × List Ivl), (A.foldl minusStep s).1.length ≤ s.1.length + A.length * (s.2.length + 1)
  | [], s => by simp
  | v :: A, s => by
    rw [List.foldl_cons]
    have h1 := fold_len A (minusStep s v)
    have h2 := cut_len v (s.2.dropWhile (past v.frm)) v.frm
    have h3 : (s.2.dropWhile (past v.frm)).length ≤ s.2.length := (List.dropWhile_sublist _).length_le
    have h4 : (minusStep s v).1.length = s.1.length + (cutI v.frm v (s.2.dropWhile (past v.frm))).length := by simp [minusStep]
    have h5 : (minusStep s v).2.length ≤ s.2.length := h3
    have h6 : A.length * ((minusStep s v).2.length + 1) ≤ A.length * (s.2.length + 1) := Nat.mul_le_mul_left _ (by omega)
    rw [List.length_cons, Nat.add_mul]
    omega
theorem minus_len (a b : List Ivl) : (minusF a b).length ≤ a.length * (b.length + 1) := by
  have h1 := fold_len (mergeF a) ([], mergeF b)
  have h2 := merge_len a
  have h3 := merge_len b
  have h4 : (mergeF a).length * ((mergeF b).length + 1) ≤ a.length * (b.length + 1) := Nat.mul_le_mul h2 (by omega)
  unfold minusF
  simp at h1
  omega
theorem minus_few {a b : List Ivl} (ha : a.length ≤ 60) (hb : b.length ≤ 60) : (minusF a b).length ≤ 3660 :=
  Nat.le_trans (minus_len a b) (Nat.le_trans (Nat.mul_le_mul ha (show b.length + 1 ≤ 61 by omega)) (by decide))
theorem common_few {a b : List Ivl} (ha : a.length ≤ 60) (hb : b.length ≤ 60) : (minusF a (minusF a b)).length ≤ 1000000 := by
  have := minus_few ha hb
  exact Nat.le_trans (minus_len a _) (Nat.le_trans (Nat.mul_le_mul ha (show (minusF a b).length + 1 ≤ 3661 by omega)) (by decide))
theorem merge_merge (l : List Ivl) : mergeF (mergeF l) = mergeF l := (merge_uniq (merge_spec l).1 fun _ => Iff.rfl).symm
theorem minus_self (l : List Ivl) : minusF l l = [] := by
  refine (minus_uniq Plain.nil fun t => ?_).symm
  exact ⟨fun h => absurd h (cov_nil _), fun h => absurd h.1 h.2⟩
/-- The next time is at t or later, it is open, and none is between. -/
theorem next_cases (l : List Hours) (t : Int) : (∃ u, nextR l t = (u, true) ∧ t ≤ u ∧ inP l u ∧ ∀ v, t ≤ v → v < u → ¬ inP l v) ∨ (nextR l t = (0, false) ∧ ∀ v, t ≤ v → ¬ inP l v) := by
  rcases leastN_cases 20000001 (fun u => decide (t ≤ u ∧ inP l u)) with ⟨n, hn, h1, h2, h3⟩ | ⟨h1, h2⟩
  · have h1' : t ≤ (n : Int) ∧ inP l n := decide_eq_true_eq.mp h1
    refine .inl ⟨n, h3, h1'.1, h1'.2, fun v hv hlt hc => ?_⟩
    have hv0 := hc.1.1
    obtain ⟨m, rfl⟩ : ∃ m : Nat, v = m := ⟨v.toNat, by omega⟩
    exact decide_eq_false_iff_not.mp (h2 m (by omega)) ⟨hv, hc⟩
  · refine .inr ⟨h2, fun v hv hc => ?_⟩
    have hv0 := hc.1.1
    have hv1 := hc.1.2
    obtain ⟨m, rfl⟩ : ∃ m : Nat, v = m := ⟨v.toNat, by omega⟩
    exact decide_eq_false_iff_not.mp (h1 m (by omega)) ⟨hv, hc⟩
theorem in_week {l : List Hours} {u : Int} (h0 : 0 ≤ u) (h1 : u ≤ 20000000 - 604800) : inP l (u + 604800) ↔ inP l u :=
  ⟨inP_week h0, inP_week' ⟨by omega, by omega⟩⟩
end Go.Proofs.Ytmehmnlhnbeeeaa
