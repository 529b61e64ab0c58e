/- The abstract walk is sound: equality of structs, cells and slices. No program in sight. -/
import Derived.Test.YtfghmpfiemmbgaaA5
import Derived.Laws.StructEq
namespace Go.Proofs.Ytfghmpfiemmbgaa
open Go.RowKit

/-- Cells that are equal, as the machine compares them. -/
def eqB : List Bool → List Value → List Value → Option Bool
  | [], [], [] => some true
  | false :: ks, .int k a :: r, .int k' b :: t => if k = k' then (eqB ks r t).map ((a == b) && ·) else none
  | true :: ks, .bool a :: r, .bool b :: t => (eqB ks r t).map ((a == b) && ·)
  | _, _, _ => none
theorem eqB_nil {xs ys : List Value} {b : Bool} (h : eqB [] xs ys = some b) : xs = [] ∧ ys = [] ∧ b = true := by
  cases xs <;> cases ys <;> simp only [eqB] at h <;> first | (cases h; done) | skip
  cases h; exact ⟨rfl, rfl, rfl⟩
theorem eqB_cons {q : Bool} {ks : List Bool} {xs ys : List Value} {b : Bool} (h : eqB (q :: ks) xs ys = some b) :
    (q = false ∧ ∃ k a c b' r t, xs = .int k a :: r ∧ ys = .int k c :: t ∧ eqB ks r t = some b' ∧ b = ((a == c) && b')) ∨ (q = true ∧ ∃ a c b' r t, xs = .bool a :: r ∧ ys = .bool c :: t ∧ eqB ks r t = some b' ∧ b = ((a == c) && b')) := by
  unfold eqB at h
  split at h
  · rename_i _ _ e; cases e
  · rename_i k a r k' c t e
    cases e
    split at h
    · rename_i e
      subst e
      obtain ⟨b', h1, h2⟩ := Option.map_eq_some_iff.1 h
      exact .inl ⟨rfl, _, _, _, b', _, _, rfl, rfl, h1, h2.symm⟩
    · cases h
  · rename_i a r c t e
    cases e
    obtain ⟨b', h1, h2⟩ := Option.map_eq_some_iff.1 h
    exact .inr ⟨rfl, _, _, b', _, _, rfl, rfl, h1, h2.symm⟩
  · cases h
theorem eqB_len : ∀ {ks : List Bool} {xs ys : List Value} {b : Bool}, eqB ks xs ys = some b → xs.length = ks.length ∧ ys.length = ks.length
  | [], xs, ys, b, h => by obtain ⟨rfl, rfl, _⟩ := eqB_nil h; simp
  | q :: ks, xs, ys, b, h => by
    rcases eqB_cons h with ⟨_, k, a, c, b', r, t, rfl, rfl, h', rfl⟩ | ⟨_, a, c, b', r, t, rfl, rfl, h', rfl⟩ <;> (obtain ⟨h1, h2⟩ := eqB_len h'; simp [h1, h2])
theorem eqB_split : ∀ {k1 k2 : List Bool} {xs ys : List Value} {b : Bool}, eqB (k1 ++ k2) xs ys = some b → ∃ b1 b2, eqB k1 (xs.take k1.length) (ys.take k1.length) = some b1 ∧ eqB k2 (xs.drop k1.length) (ys.drop k1.length) = some b2 ∧ b = (b1 && b2)
  | [], k2, xs, ys, b, h => ⟨true, b, by simp [eqB], by simpa using h, by simp⟩
  | q :: k1, k2, xs, ys, b, h => by
    rcases eqB_cons h with ⟨rfl, k, a, c, b', r, t, rfl, rfl, h', rfl⟩ | ⟨rfl, a, c, b', r, t, rfl, rfl, h', rfl⟩
    · obtain ⟨b1, b2, h1, h2, rfl⟩ := eqB_split h'
      exact ⟨(a == c) && b1, b2, by simp only [List.length_cons, List.take_succ_cons, eqB, if_true, h1]; rfl, by simpa using h2, by rw [Bool.and_assoc]⟩
    · obtain ⟨b1, b2, h1, h2, rfl⟩ := eqB_split h'
      exact ⟨(a == c) && b1, b2, by simp only [List.length_cons, List.take_succ_cons, eqB, h1]; rfl, by simpa using h2, by rw [Bool.and_assoc]⟩

section
variable {P : Program}
theorem run_part {t : TypeId} {u : TypeDesc} {k : Nat} (hu : P.underlying t = some u) (hk : sizeOfT P t = some k) (hk1 : aggD u = false → k = 1) {cs : List Value} {off : Nat} (hl : off + k ≤ cs.length) (w : World) :
    ∃ x, (part t cs.toArray off).run P w = .ok x w ∧ ((aggD u = true ∧ x = .agg ((cs.drop off).take k).toArray) ∨ (aggD u = false ∧ (cs.drop off).take k = [x])) := by
  unfold part
  simp only [Sem.run_bind, run_aggT hu, Result.andThen_ok]
  cases ha : aggD u with
  | true =>
    refine ⟨.agg ((cs.drop off).take k).toArray, ?_, .inl ⟨rfl, rfl⟩⟩
    simp only [if_true, Sem.run_bind, run_sizeT hk, Result.andThen_ok, Sem.run_pure]
    congr 2
    simp [List.extract_eq_take_drop]
  | false =>
    have := hk1 ha
    subst this
    have hlt : off < cs.length := by omega
    refine ⟨cs[off], ?_, .inr ⟨rfl, ?_⟩⟩
    · simp [hlt]
    · rw [List.drop_eq_getElem_cons hlt]; rfl

theorem run_eqFs {g : TypeId → Option (List Bool)} {d : Nat} (hg : ∀ t l, g t = some l → ∀ (xs ys : List Value) (b : Bool) (x y : Value) (w : World), eqB l xs ys = some b →
      (((P.underlying t).map aggD = some true ∧ x = .agg xs.toArray ∧ y = .agg ys.toArray) ∨ ((P.underlying t).map aggD = some false ∧ xs = [x] ∧ ys = [y])) → (Op.equalIn d t x y).run P w = .ok b w) :
    ∀ (fs : List Field) (n : Nat) (m : List Bool), eqT.eqFs g (fun u => (P.underlying u).map aggD) (sizeOfT P) n fs = some m → ∀ (xs ys : List Value) (b : Bool) (w : World), eqB m (xs.drop n) (ys.drop n) = some b →
      (Op.eqFields d xs.toArray ys.toArray fs).run P w = .ok b w
  | [], n, m, h, xs, ys, b, w, hb => by
    simp [eqT.eqFs] at h
    subst h
    obtain ⟨_, _, rfl⟩ := eqB_nil hb
    simp [Op.eqFields]
  | f :: r, n, m, h, xs, ys, b, w, hb => by
    simp only [eqT.eqFs] at h
    split at h
    · rename_i l ag k' hgk hag hsz
      split at h
      · rename_i hc
        obtain ⟨hn, ho, rfl, hk0, hk1⟩ := hc
        split at h
        · rename_i m' hm'
          cases h
          cases hu : P.underlying f.type with
          | none => rw [hu] at hag; cases hag
          | some u =>
            rw [hu] at hag
            simp at hag
            subst hag
            obtain ⟨l1, l2⟩ := eqB_len hb
            simp only [List.length_drop, List.length_append] at l1 l2
            obtain ⟨b1, b2, e1, e2, rfl⟩ := eqB_split hb
            rw [List.drop_drop, List.drop_drop] at e2
            have hrun := run_eqFs hg r (n + l.length) m' hm' xs ys b2 w e2
            obtain ⟨x, hx, hx'⟩ := run_part (P := P) hu hsz hk1 (cs := xs) (off := n) (by have := eqB_len e1; simp at this; omega) w
            obtain ⟨y, hy, hy'⟩ := run_part (P := P) hu hsz hk1 (cs := ys) (off := n) (by have := eqB_len e1; simp at this; omega) w
            have he := hg f.type l hgk _ _ b1 x y w e1 (by
              rcases hx' with ⟨ha, rfl⟩ | ⟨ha, hx'⟩
              · rcases hy' with ⟨_, rfl⟩ | ⟨hb, _⟩
                · exact .inl ⟨by rw [hu]; simp [ha], rfl, rfl⟩
                · rw [ha] at hb; cases hb
              · rcases hy' with ⟨hb, _⟩ | ⟨_, hy'⟩
                · rw [ha] at hb; cases hb
                · exact .inr ⟨by rw [hu]; simp [ha], hx', hy'⟩)
            simp only [Op.eqFields, ho, Sem.run_ite, if_pos hn, Sem.run_bind, hx, hy, Result.andThen_ok, he]
            cases b1
            · simp
            · simpa using hrun
        · cases h
      · cases h
    · cases h

theorem run_eqT : ∀ (d : Nat) (t : TypeId) (l : List Bool), eqT P d t = some l → ∀ (e : Nat) (xs ys : List Value) (b : Bool) (x y : Value) (w : World), d ≤ e → eqB l xs ys = some b →
      (((P.underlying t).map aggD = some true ∧ x = .agg xs.toArray ∧ y = .agg ys.toArray) ∨ ((P.underlying t).map aggD = some false ∧ xs = [x] ∧ ys = [y])) → (Op.equalIn e t x y).run P w = .ok b w
  | 0, t, k, h => by simp [eqT] at h
  | d + 1, t, l, h => by
    intro e xs ys b x y w hde hb hv
    obtain ⟨e, rfl⟩ : ∃ e', e = e' + 1 := ⟨e - 1, by omega⟩
    simp only [eqT] at h
    split at h
    · rename_i kd hu
      cases h
      rw [hu] at hv
      rcases hv with ⟨h1, _⟩ | ⟨_, rfl, rfl⟩
      · simp [aggD] at h1
      · rcases eqB_cons hb with ⟨_, k, a, c, b', r, t, e1, e2, h', rfl⟩ | ⟨h0, _⟩
        · cases e1; cases e2
          rw [(eqB_nil h').2.2, Bool.and_true]; exact run_equalIn_int w e _ k kd a c hu
        · cases h0
    · rename_i hu
      cases h
      rw [hu] at hv
      rcases hv with ⟨h1, _⟩ | ⟨_, rfl, rfl⟩
      · simp [aggD] at h1
      · rcases eqB_cons hb with ⟨h0, _⟩ | ⟨_, a, c, b', r, t, e1, e2, h', rfl⟩
        · cases h0
        · cases e1; cases e2
          rw [(eqB_nil h').2.2, Bool.and_true]; exact run_equalIn_bool' w e _ a c hu
    · rename_i fs hu
      split at h
      · cases h
      · rename_i hs
        rw [hu] at hv
        rcases hv with ⟨_, rfl, rfl⟩ | ⟨h1, _⟩
        · have hf : P.fieldsOf t = fs := by simp [Program.fieldsOf, hu]
          rw [run_equalIn_agg w e t _ _ (by rw [hf]; exact hu) (by simpa using hs), hf]
          exact run_eqFs (P := P) (fun t l hk xs ys b x y w hb hv => run_eqT d t l hk e xs ys b x y w (by omega) hb hv) fs.toList 0 l h xs ys b w (by simpa using hb)
        · simp [aggD] at h1
    · cases h
end

section
variable {w : World} {own : Nat → Prop} {ι : Iota} {H : List (Nat × Ob)} {nx : Nat}
theorem ikB_eq {a b : IntKind} (h : ikB a b = true) : a = b := by
  cases a <;> cases b <;> first | rfl | (simp [ikB, IntKind.ctorIdx] at h)
theorem eqCells_nil {xs ys : List SV} {p : Prop} (h : eqCells [] xs ys = some p) : xs = [] ∧ ys = [] ∧ p = True := by
  cases xs <;> cases ys <;> simp only [eqCells] at h <;> first | (cases h; done) | skip
  cases h; exact ⟨rfl, rfl, rfl⟩
theorem eqCells_cons {q : Bool} {ks : List Bool} {xs ys : List SV} {p : Prop} (h : eqCells (q :: ks) xs ys = some p) :
    (q = false ∧ ∃ k a c p' r t, xs = .c (.int k a) :: r ∧ ys = .c (.int k c) :: t ∧ eqCells ks r t = some p' ∧ p = (a = c ∧ p')) ∨ (q = true ∧ ∃ a c p' r t, xs = .c (.bool a) :: r ∧ ys = .c (.bool c) :: t ∧ eqCells ks r t = some p' ∧ p = (a = c ∧ p')) := by
  unfold eqCells at h
  split at h
  · rename_i _ _ e; cases e
  · rename_i k a r k' c t e
    cases e
    split at h
    · rename_i p' hk hq
      cases h
      have := ikB_eq hk
      subst this
      exact .inl ⟨rfl, _, _, _, p', _, _, rfl, rfl, hq, rfl⟩
    · cases h
  · rename_i a r c t e
    cases e
    split at h
    · rename_i p' hq
      cases h
      exact .inr ⟨rfl, _, _, p', _, _, rfl, rfl, hq, rfl⟩
    · cases h
  · cases h
theorem eqCells_b : ∀ {ks : List Bool} {xs ys : List SV} {p : Prop} {us vs : List Value}, eqCells ks xs ys = some p → RepList w own ι H nx xs us → RepList w own ι H nx ys vs → ∃ b, eqB ks us vs = some b ∧ (b = true ↔ p)
  | [], xs, ys, p, us, vs, h, hu, hv => by
    obtain ⟨rfl, rfl, rfl⟩ := eqCells_nil h
    rw [replist_nil hu, replist_nil hv]; exact ⟨true, rfl, by simp⟩
  | q :: ks, xs, ys, p, us, vs, h, hu, hv => by
    rcases eqCells_cons h with ⟨rfl, k, a, c, p', r, t, rfl, rfl, h', rfl⟩ | ⟨rfl, a, c, p', r, t, rfl, rfl, h', rfl⟩
    · obtain ⟨u, ur, rfl, h1, h2⟩ := replist_cons hu
      obtain ⟨v, vr, rfl, h3, h4⟩ := replist_cons hv
      rw [rep_int h1, rep_int h3]
      obtain ⟨b', e, hb⟩ := eqCells_b h' h2 h4
      exact ⟨(a == c) && b', by simp only [eqB, if_true, e]; rfl, by simp [hb]⟩
    · obtain ⟨u, ur, rfl, h1, h2⟩ := replist_cons hu
      obtain ⟨v, vr, rfl, h3, h4⟩ := replist_cons hv
      rw [rep_bool h1, rep_bool h3]
      obtain ⟨b', e, hb⟩ := eqCells_b h' h2 h4
      exact ⟨(a == c) && b', by simp only [eqB, e]; rfl, by simp [hb]⟩
end
end Go.Proofs.Ytfghmpfiemmbgaa
