/- The clock: the reference's way to the difference of sets. Plain. -/
import Derived.Test.YtmehmnlhnbeeeaaP4
namespace Go.Proofs.Ytmehmnlhnbeeeaa

def hasP (a b : List Ivl) (t : Int) : Prop := cov a t ∧ ¬ cov b t
instance (a b : List Ivl) (t : Int) : Decidable (hasP a b t) := by unfold hasP; infer_instance
def ends1 (v : Ivl) : List Int := if validI v then [v.frm, v.to] else []
def endsF (l : List Ivl) : List Int := l.flatMap ends1
theorem endsF_step {l : List Ivl} {k : Nat} {x : Ivl} (hx : l[k]? = some x) : endsF (l.take (k + 1)) = endsF (l.take k) ++ ends1 x := by
  rw [endsF, take_snoc _ _ _ hx, List.flatMap_append]; simp [endsF]
theorem ends_len : ∀ l : List Ivl, (endsF l).length ≤ 2 * l.length
  | [] => by simp [endsF]
  | v :: r => by
    have := ends_len r
    have h1 : (ends1 v).length ≤ 2 := by unfold ends1; split <;> simp
    simp only [endsF, List.flatMap_cons, List.length_append, List.length_cons] at *
    omega
theorem mem_ends {l : List Ivl} {x : Int} : x ∈ endsF l ↔ ∃ v ∈ l, validI v ∧ (x = v.frm ∨ x = v.to) := by
  simp only [endsF, List.mem_flatMap]
  constructor
  · rintro ⟨v, hv, hx⟩
    unfold ends1 at hx
    split at hx
    · exact ⟨v, hv, by assumption, by simpa using hx⟩
    · simp at hx
  · rintro ⟨v, hv, h1, h2⟩
    exact ⟨v, hv, by unfold ends1; rw [if_pos h1]; simpa using h2⟩
theorem ends_bd {l : List Ivl} {x : Int} (h : x ∈ endsF l) : 0 ≤ x ∧ x ≤ 20000000 := by
  obtain ⟨v, _, hv, rfl | rfl⟩ := mem_ends.1 h <;> (unfold validI at hv; omega)
def afterStep (n : Int) (s : Int × Bool) (x : Int) : Int × Bool := if n < x ∧ (s.2 = false ∨ x < s.1) then (x, true) else s
def afterTo (l : List Int) (n : Int) (k : Nat) : Int × Bool := (l.take k).foldl (afterStep n) (0, false)
def afterF (l : List Int) (n : Int) : Int × Bool := l.foldl (afterStep n) (0, false)
theorem afterTo_succ {l : List Int} {n : Int} {k : Nat} {x : Int} (hx : l[k]? = some x) : afterTo l n (k + 1) = afterStep n (afterTo l n k) x := by
  rw [afterTo, take_snoc _ _ _ hx, List.foldl_append]; rfl
theorem afterTo_end {l : List Int} {n : Int} {k : Nat} (hk : ¬ k < l.length) : afterTo l n k = afterF l n := by rw [afterTo, take_end hk]; rfl
/-- The least number beyond n. -/
def After (l : List Int) (n u : Int) (ok : Bool) : Prop := match ok with
  | true => (u ∈ l ∧ n < u) ∧ ∀ x ∈ l, n < x → u ≤ x
  | false => ∀ x ∈ l, x ≤ n
theorem after_fold (n : Int) : ∀ (m l : List Int) (s : Int × Bool), After l n s.1 s.2 → After (l ++ m) n (m.foldl (afterStep n) s).1 (m.foldl (afterStep n) s).2
  | [], l, s, h => by simpa using h
  | x :: m, l, s, h => by
    rw [List.foldl_cons, show l ++ x :: m = (l ++ [x]) ++ m by simp]
    refine after_fold n m (l ++ [x]) _ ?_
    obtain ⟨u, ok⟩ := s
    unfold afterStep
    dsimp only at h ⊢
    split
    · rename_i hc
      refine ⟨⟨by simp, hc.1⟩, fun y hy hn => ?_⟩
      rcases List.mem_append.1 hy with hy | hy
      · cases ok with
        | true => have := h.2 y hy hn; rcases hc.2 with h' | h'; cases h'; omega
        | false => have := h y hy; omega
      · simp at hy; omega
    · rename_i hc
      cases ok with
      | true =>
        refine ⟨⟨by simp [h.1.1], h.1.2⟩, fun y hy hn => ?_⟩
        rcases List.mem_append.1 hy with hy | hy
        · exact h.2 y hy hn
        · simp at hy; subst hy
          simp at hc
          exact hc hn
      | false =>
        intro y hy
        rcases List.mem_append.1 hy with hy | hy
        · exact h y hy
        · simp at hy; subst hy
          simp at hc
          exact hc
theorem after_spec (l : List Int) (n : Int) : After l n (afterF l n).1 (afterF l n).2 := by
  have := after_fold n l [] (0, false) (by intro x hx; simp at hx)
  rw [List.nil_append] at this
  exact this
theorem cov_const {l : List Ivl} {t s : Int} (h : ∀ x ∈ endsF l, t < x → s < x) (hs : t ≤ s) : cov l s ↔ cov l t := by
  constructor
  · rintro ⟨v, hv, h1, h2, h3⟩
    refine ⟨v, hv, h1, ?_, by omega⟩
    by_cases e : v.frm ≤ t
    · exact e
    · have := h v.frm (mem_ends.2 ⟨v, hv, h1, .inl rfl⟩) (by omega); omega
  · rintro ⟨v, hv, h1, h2, h3⟩
    have := h v.to (mem_ends.2 ⟨v, hv, h1, .inr rfl⟩) h3
    exact ⟨v, hv, h1, by omega, this⟩
def endsAB (a b : List Ivl) : List Int := endsF a ++ endsF b
theorem has_const {a b : List Ivl} {t s : Int} (h : ∀ x ∈ endsAB a b, t < x → s < x) (hs : t ≤ s) : hasP a b s ↔ hasP a b t := by
  unfold hasP
  rw [cov_const (fun x hx => h x (by simp [endsAB, hx])) hs, cov_const (fun x hx => h x (by simp [endsAB, hx])) hs]
theorem has_more {a b : List Ivl} {t u : Int} {ok : Bool} (hh : hasP a b t) (h : After (endsAB a b) t u ok) : ok = true := by
  cases ok with
  | true => rfl
  | false =>
    obtain ⟨v, hv, h1, h2, h3⟩ := hh.1
    have := h v.to (by simp only [endsAB, List.mem_append]; exact .inl (mem_ends.2 ⟨v, hv, h1, .inr rfl⟩))
    omega
theorem endsAB_bd {a b : List Ivl} {x : Int} (h : x ∈ endsAB a b) : 0 ≤ x ∧ x ≤ 20000000 := by
  rcases List.mem_append.1 h with h | h <;> exact ends_bd h
structure RI (a b : List Ivl) (t : Int) (out : List Ivl) : Prop where
  plain : Plain out
  same : ∀ x, x < t → (cov out x ↔ hasP a b x)
  le : ∀ w ∈ out, w.to ≤ t
  last : hasP a b (t - 1) → ∃ w, out[out.length - 1]? = some w ∧ w.to = t
  gap : ¬ hasP a b (t - 1) → ∀ w ∈ out, w.to < t
/-- The state at the head of the reference's loop. -/
def RS (a b : List Ivl) (t : Int) (ok : Bool) (out : List Ivl) : Prop := match ok with
  | true => t ∈ endsAB a b ∧ RI a b t out
  | false => Plain out ∧ ∀ x, cov out x ↔ hasP a b x
theorem has_low {a b : List Ivl} {t x : Int} (h : ∀ y ∈ endsAB a b, t ≤ y) (hx : x < t) : ¬ hasP a b x := by
  rintro ⟨⟨v, hv, h1, h2, _⟩, _⟩
  have := h v.frm (by simp only [endsAB, List.mem_append]; exact .inl (mem_ends.2 ⟨v, hv, h1, .inl rfl⟩))
  omega
theorem RS.start {a b : List Ivl} {t : Int} {ok : Bool} (h : After (endsAB a b) (-1) t ok) : RS a b t ok [] := by
  cases ok with
  | true =>
    have hlow : ∀ y ∈ endsAB a b, t ≤ y := fun y hy => h.2 y hy (by have := endsAB_bd hy; omega)
    refine ⟨h.1.1, Plain.nil, fun x hx => ?_, by simp, fun hc => absurd hc (has_low hlow (by omega)), by simp⟩
    exact ⟨fun hc => absurd hc (cov_nil _), fun hc => absurd hc (has_low hlow hx)⟩
  | false =>
    refine ⟨Plain.nil, fun x => ⟨fun hc => absurd hc (cov_nil _), fun hc => ?_⟩⟩
    obtain ⟨⟨v, hv, h1, h2, _⟩, _⟩ := hc
    have hm : v.frm ∈ endsAB a b := by simp only [endsAB, List.mem_append]; exact .inl (mem_ends.2 ⟨v, hv, h1, .inl rfl⟩)
    have := h _ hm
    have := endsAB_bd hm
    omega
theorem cov_le {out : List Ivl} {t x : Int} (h : ∀ w ∈ out, w.to ≤ t) (hx : t ≤ x) : ¬ cov out x := by
  rintro ⟨v, hv, _, _, h3⟩
  have := h v hv; omega
theorem RI.skip {a b out : List Ivl} {t u : Int} {ok : Bool} (h : RI a b t out) (hn : ¬ hasP a b t) (ha : After (endsAB a b) t u ok) : RS a b u ok out := by
  cases ok with
  | true =>
    have hc : ∀ s, t ≤ s → s < u → (hasP a b s ↔ hasP a b t) := fun s h1 h2 => has_const (fun x hx hlt => by have := ha.2 x hx hlt; omega) h1
    have hu := ha.1.2
    refine ⟨ha.1.1, h.plain, fun x hx => ?_, fun w hw => by have := h.le w hw; omega, fun hl => absurd ((hc (u - 1) (by omega) (by omega)).1 hl) hn, fun _ w hw => by have := h.le w hw; omega⟩
    by_cases e : x < t
    · exact h.same x e
    · exact ⟨fun hc' => absurd hc' (cov_le h.le (by omega)), fun hl => absurd ((hc x (by omega) hx).1 hl) hn⟩
  | false =>
    refine ⟨h.plain, fun x => ?_⟩
    by_cases e : x < t
    · exact h.same x e
    · have hc := has_const (a := a) (b := b) (t := t) (s := x) (fun y hy hlt => by have := ha y hy; omega) (by omega)
      exact ⟨fun hc' => absurd hc' (cov_le h.le (by omega)), fun hl => absurd (hc.1 hl) hn⟩
theorem RI.grow {a b out out' : List Ivl} {t u : Int} (h : RI a b t out) (hh : hasP a b t) (ha : After (endsAB a b) t u true) (hp : Plain out') (hcov : ∀ x, cov out' x ↔ cov out x ∨ (t ≤ x ∧ x < u)) (hle : ∀ w ∈ out', w.to ≤ u) (hl : ∃ w, out'[out'.length - 1]? = some w ∧ w.to = u) : RS a b u true out' := by
  have hc : ∀ s, t ≤ s → s < u → hasP a b s := fun s h1 h2 => (has_const (fun x hx hlt => by have := ha.2 x hx hlt; omega) h1).2 hh
  have hu := ha.1.2
  refine ⟨ha.1.1, hp, fun x hx => ?_, hle, fun _ => hl, fun hn => absurd (hc (u - 1) (by omega) (by omega)) hn⟩
  rw [hcov]
  by_cases e : x < t
  · rw [h.same x e]
    exact ⟨fun h => h.elim id fun h => by omega, .inl⟩
  · exact ⟨fun _ => hc x (by omega) hx, fun _ => .inr ⟨by omega, hx⟩⟩
theorem RI.new {a b out : List Ivl} {t u : Int} (h : RI a b t out) (ht : t ∈ endsAB a b) (hh : hasP a b t) (hg : ¬ hasP a b (t - 1)) (ha : After (endsAB a b) t u true) : RS a b u true (out ++ [⟨t, u⟩]) := by
  have ht0 := (endsAB_bd ht).1
  have hu0 := (endsAB_bd ha.1.1).2
  have hu := ha.1.2
  have hf : full ⟨t, u⟩ := ⟨ht0, hu, hu0⟩
  refine h.grow hh ha ⟨List.pairwise_append.2 ⟨h.plain.1, by simp, fun x hx y hy => ?_⟩, fun w hw => ?_⟩ (fun x => ?_) (fun w hw => ?_) ⟨⟨t, u⟩, by simp, rfl⟩
  · simp at hy; subst hy; exact h.gap hg x hx
  · rcases List.mem_append.1 hw with hw | hw
    · exact h.plain.2 w hw
    · simp at hw; subst hw; exact hf
  · rw [cov_append]
    refine or_congr_right ?_
    simp only [cov, List.mem_singleton, exists_eq_left, at1]
    exact ⟨fun h => h.2, fun h => ⟨hf.valid, h⟩⟩
  · rcases List.mem_append.1 hw with hw | hw
    · have := h.le w hw; omega
    · simp at hw; subst hw; exact Int.le_refl _
theorem RI.join {a b out : List Ivl} {t u : Int} {w : Ivl} (h : RI a b t out) (hh : hasP a b t) (hw : out[out.length - 1]? = some w) (hwt : w.to = t) (ha : After (endsAB a b) t u true) : RS a b u true (out.set (out.length - 1) ⟨w.frm, u⟩) := by
  have hu0 := (endsAB_bd ha.1.1).2
  have hu := ha.1.2
  have hsp := last_split hw
  have hfw := h.plain.2 w (List.mem_of_getElem? hw)
  have hf : full ⟨w.frm, u⟩ := ⟨hfw.1, by show w.frm < u; have := hfw.2.1; omega, hu0⟩
  have hp : Plain (out.dropLast ++ [w]) := by rw [← hsp]; exact h.plain
  obtain ⟨p1, p2, p3⟩ := List.pairwise_append.1 hp.1
  rw [last_set hw]
  refine h.grow hh ha ⟨List.pairwise_append.2 ⟨p1, by simp, fun x hx y hy => by simp at hy; subst hy; exact p3 x hx w (by simp)⟩, fun x hx => ?_⟩ (fun x => ?_) (fun x hx => ?_) ⟨⟨w.frm, u⟩, by simp, rfl⟩
  · rcases List.mem_append.1 hx with hx | hx
    · exact hp.2 x (by simp [hx])
    · simp at hx; subst hx; exact hf
  · have e : cov out x ↔ cov out.dropLast x ∨ cov [w] x := by rw [← cov_append, ← hsp]
    rw [cov_append, e, or_assoc]
    refine or_congr_right ?_
    simp only [cov, List.mem_singleton, exists_eq_left, at1]
    have := hfw.2.1
    constructor
    · rintro ⟨_, h1, h2⟩
      have h1' : w.frm ≤ x := h1
      have h2' : x < u := h2
      by_cases hc : x < w.to
      · exact .inl ⟨hfw.valid, h1', hc⟩
      · exact .inr ⟨by omega, h2'⟩
    · rintro (⟨_, h1, h2⟩ | ⟨h1, h2⟩)
      · exact ⟨hf.valid, h1, by show x < u; omega⟩
      · exact ⟨hf.valid, by show w.frm ≤ x; omega, h2⟩
  · rcases List.mem_append.1 hx with hx | hx
    · have := h.le x (by rw [hsp]; simp [hx]); omega
    · simp at hx; subst hx; exact Int.le_refl _
theorem merge_minus (l : List Ivl) : minusF l [] = mergeF l :=
  merge_uniq (minus_spec l []).1 fun t => by rw [(minus_spec l []).2]; exact ⟨fun h => h.1, fun h => ⟨h, cov_nil _⟩⟩
end Go.Proofs.Ytmehmnlhnbeeeaa
