/- The clock: sets of times as intervals. Plain. -/
import Derived.Test.YtmehmnlhnbeeeaaP2
namespace Go.Proofs.Ytmehmnlhnbeeeaa

structure Ivl where
  frm : Int
  to : Int
instance : DecidableEq Ivl := fun a b => if h : a.frm = b.frm ∧ a.to = b.to then isTrue (by cases a; cases b; simp_all) else isFalse (by rintro rfl; simp at h)
def validI (v : Ivl) : Prop := 0 ≤ v.frm ∧ v.frm ≤ v.to ∧ v.to ≤ 20000000
instance (v : Ivl) : Decidable (validI v) := by unfold validI; infer_instance
def at1 (v : Ivl) (t : Int) : Prop := validI v ∧ v.frm ≤ t ∧ t < v.to
instance (v : Ivl) (t : Int) : Decidable (at1 v t) := by unfold at1; infer_instance
def cov (l : List Ivl) (t : Int) : Prop := ∃ v ∈ l, at1 v t
instance (l : List Ivl) (t : Int) : Decidable (cov l t) := by unfold cov; infer_instance
/-- Not empty, in range. -/
def full (v : Ivl) : Prop := 0 ≤ v.frm ∧ v.frm < v.to ∧ v.to ≤ 20000000
instance (v : Ivl) : Decidable (full v) := by unfold full; infer_instance
theorem full.valid {v : Ivl} (h : full v) : validI v := ⟨h.1, by have := h.2.1; omega, h.2.2⟩
def Plain (l : List Ivl) : Prop := l.Pairwise (fun a b => a.to < b.frm) ∧ ∀ v ∈ l, full v
theorem Plain.nil : Plain [] := ⟨.nil, by simp⟩
theorem Plain.tail {v : Ivl} {l : List Ivl} (h : Plain (v :: l)) : Plain l := ⟨(List.pairwise_cons.1 h.1).2, fun w hw => h.2 w (by simp [hw])⟩
theorem Plain.head {v : Ivl} {l : List Ivl} (h : Plain (v :: l)) : full v := h.2 v (by simp)
theorem Plain.lt {v : Ivl} {l : List Ivl} (h : Plain (v :: l)) : ∀ w ∈ l, v.to < w.frm := (List.pairwise_cons.1 h.1).1
theorem Plain.sub {l m : List Ivl} (h : Plain l) (hs : m.Sublist l) : Plain m := ⟨h.1.sublist hs, fun v hv => h.2 v (hs.subset hv)⟩
theorem cov_nil (t : Int) : ¬ cov [] t := fun ⟨_, h, _⟩ => by simp at h
theorem cov_cons {v : Ivl} {l : List Ivl} {t : Int} : cov (v :: l) t ↔ at1 v t ∨ cov l t := by simp [cov]
theorem cov_append {l m : List Ivl} {t : Int} : cov (l ++ m) t ↔ cov l t ∨ cov m t := by
  simp only [cov, List.mem_append]
  constructor
  · rintro ⟨v, h | h, h'⟩
    · exact .inl ⟨v, h, h'⟩
    · exact .inr ⟨v, h, h'⟩
  · rintro (⟨v, h, h'⟩ | ⟨v, h, h'⟩)
    · exact ⟨v, .inl h, h'⟩
    · exact ⟨v, .inr h, h'⟩
theorem plain_ext : ∀ {a b : List Ivl}, Plain a → Plain b → (∀ t, cov a t ↔ cov b t) → a = b
  | [], [], _, _, _ => rfl
  | [], y :: b, _, hb, h => by
    have := hb.head
    exact absurd ((h y.frm).2 (cov_cons.2 (.inl ⟨this.valid, by omega, this.2.1⟩))) (cov_nil _)
  | x :: a, [], ha, _, h => by
    have := ha.head
    exact absurd ((h x.frm).1 (cov_cons.2 (.inl ⟨this.valid, by omega, this.2.1⟩))) (cov_nil _)
  | x :: a, y :: b, ha, hb, h => by
    have fx := ha.head
    have fy := hb.head
    have low : ∀ {x y : Ivl} {a b : List Ivl}, Plain (x :: a) → Plain (y :: b) → (∀ t, cov (x :: a) t ↔ cov (y :: b) t) → y.frm ≤ x.frm := by
      intro x y a b ha hb h
      have fx := ha.head
      obtain ⟨v, hv, _, h1, _⟩ := (h x.frm).1 (cov_cons.2 (.inl ⟨fx.valid, by omega, fx.2.1⟩))
      rcases List.mem_cons.1 hv with rfl | hv
      · exact h1
      · have := hb.lt v hv; have := hb.head.2.1; omega
    have e1 : x.frm = y.frm := by
      have h1 := low ha hb h
      have h2 := low hb ha (fun t => (h t).symm)
      omega
    have high : ∀ {x y : Ivl} {a b : List Ivl}, Plain (x :: a) → Plain (y :: b) → x.frm = y.frm → (∀ t, cov (x :: a) t ↔ cov (y :: b) t) → ¬ x.to < y.to := by
      intro x y a b ha hb e h hlt
      have fy := hb.head
      have fx := ha.head
      obtain ⟨v, hv, _, h1, h2⟩ := (h x.to).2 (cov_cons.2 (.inl ⟨fy.valid, by have := fx.2.1; omega, hlt⟩))
      rcases List.mem_cons.1 hv with rfl | hv
      · omega
      · have := ha.lt v hv; omega
    have e2 : x.to = y.to := by
      have h1 := high ha hb e1 h
      have h2 := high hb ha e1.symm (fun t => (h t).symm)
      omega
    obtain rfl : x = y := by cases x; cases y; simp_all
    have tl : ∀ {a b : List Ivl}, Plain (x :: a) → (∀ t, cov (x :: a) t ↔ cov (x :: b) t) → ∀ t, cov a t → cov b t := by
      intro a b ha h t hc
      rcases cov_cons.1 ((h t).1 (cov_cons.2 (.inr hc))) with h' | h'
      · obtain ⟨v, hv, _, g1, _⟩ := hc
        have := ha.lt v hv
        have := h'.2.2
        omega
      · exact h'
    rw [plain_ext ha.tail hb.tail fun t => ⟨tl ha h t, tl hb (fun t => (h t).symm) t⟩]

/-! Merge -/
/-- What stands after some of the sorted intervals are taken in. -/
structure MI (s : List Ivl) (k : Nat) (out : List Ivl) : Prop where
  plain : Plain out
  same : ∀ t, cov out t ↔ cov (s.take k) t
  low : ∀ w ∈ out, ∀ v ∈ s.drop k, w.frm ≤ v.frm
  len : out.length ≤ k
theorem MI.start (s : List Ivl) : MI s 0 [] := ⟨Plain.nil, by simp, by simp, by simp⟩
theorem MI.new {s out : List Ivl} {k : Nat} {v : Ivl} (h : MI s k out) (hs : s.Pairwise fun a b => a.frm ≤ b.frm) (hv : s[k]? = some v) (hf : full v) (hl : ∀ w ∈ out, w.to < v.frm) : MI s (k + 1) (out ++ [v]) := by
  refine ⟨⟨List.pairwise_append.2 ⟨h.plain.1, by simp, fun a ha b hb => by simp at hb; subst hb; exact hl a ha⟩, fun w hw => ?_⟩, fun t => ?_, fun w hw x hx => ?_, by have := h.len; simp; omega⟩
  · rcases List.mem_append.1 hw with hw | hw
    · exact h.plain.2 w hw
    · simp at hw; subst hw; exact hf
  · rw [take_snoc _ _ _ hv, cov_append, cov_append, h.same]
  · rcases List.mem_append.1 hw with hw | hw
    · exact h.low w hw x (by rw [drop_of hv]; exact List.mem_cons_of_mem _ hx)
    · simp at hw; subst hw
      have hd : (s.drop k).Pairwise fun a b => a.frm ≤ b.frm := hs.sublist (List.drop_sublist _ _)
      rw [drop_of hv] at hd
      exact (List.pairwise_cons.1 hd).1 x hx
theorem last_split {out : List Ivl} {w : Ivl} (h : out[out.length - 1]? = some w) : out = out.dropLast ++ [w] := by
  have hne : out ≠ [] := by rintro rfl; simp at h
  have hl : out.getLast hne = w := by
    have := List.getLast?_eq_getElem? (l := out)
    rw [h, List.getLast?_eq_some_getLast hne] at this
    exact Option.some.inj this
  rw [← hl]; exact (List.dropLast_concat_getLast hne).symm
theorem last_set {out : List Ivl} {w x : Ivl} (h : out[out.length - 1]? = some w) : out.set (out.length - 1) x = out.dropLast ++ [x] := by
  have hs := last_split h
  conv => lhs; rw [hs]
  rw [List.set_append_right _ _ (by simp)]
  simp
theorem MI.join {s out : List Ivl} {k : Nat} {v w : Ivl} (h : MI s k out) (hv : s[k]? = some v) (hf : full v) (hw : out[out.length - 1]? = some w) (hl : v.frm ≤ w.to) : MI s (k + 1) (out.set (out.length - 1) ⟨w.frm, max w.to v.to⟩) := by
  have hsp := last_split hw
  have hwo : w ∈ out := List.mem_of_getElem? hw
  have hfw := h.plain.2 w hwo
  have hlo : w.frm ≤ v.frm := h.low w hwo v (by rw [drop_of hv]; simp)
  have hfn : full ⟨w.frm, max w.to v.to⟩ := ⟨hfw.1, by show w.frm < max w.to v.to; have := hfw.2.1; omega, by show max w.to v.to ≤ 20000000; have := hfw.2.2; have := hf.2.2; omega⟩
  have hp : Plain (out.dropLast ++ [w]) := by rw [← hsp]; exact h.plain
  obtain ⟨p1, p2, p3⟩ := List.pairwise_append.1 hp.1
  rw [last_set hw]
  refine ⟨⟨List.pairwise_append.2 ⟨p1, by simp, fun a ha b hb => by simp at hb; subst hb; exact p3 a ha w (by simp)⟩, fun x hx => ?_⟩, fun t => ?_, fun x hx y hy => ?_, by have := h.len; simp; omega⟩
  · rcases List.mem_append.1 hx with hx | hx
    · exact hp.2 x (by simp [hx])
    · simp at hx; subst hx; exact hfn
  · rw [take_snoc _ _ _ hv, cov_append, cov_append, ← h.same]
    have e : cov out t ↔ cov out.dropLast t ∨ cov [w] t := by rw [← cov_append, ← hsp]
    rw [e, or_assoc]
    refine or_congr_right ?_
    simp only [cov, List.mem_singleton, exists_eq_left]
    unfold at1
    have := hfn.valid; have := hfw.valid; have := hf.valid
    have := hfw.2.1; have := hf.2.1
    constructor
    · rintro ⟨_, h1, h2⟩
      have h1' : w.frm ≤ t := h1
      have h2' : t < max w.to v.to := h2
      by_cases hc : t < w.to
      · exact .inl ⟨hfw.valid, h1', hc⟩
      · exact .inr ⟨hf.valid, by omega, by omega⟩
    · rintro (⟨_, h1, h2⟩ | ⟨_, h1, h2⟩)
      · exact ⟨hfn.valid, h1, by show t < max w.to v.to; omega⟩
      · exact ⟨hfn.valid, by show w.frm ≤ t; omega, by show t < max w.to v.to; omega⟩
  · have hy' : y ∈ s.drop k := by rw [drop_of hv]; exact List.mem_cons_of_mem _ hy
    rcases List.mem_append.1 hx with hx | hx
    · exact h.low x (by rw [hsp]; simp [hx]) y hy'
    · simp at hx; subst hx; exact h.low w hwo y hy'
def good (v : Ivl) : Bool := decide (full v)
def ins (v : Ivl) : List Ivl → List Ivl
  | [] => [v]
  | w :: r => if v.frm ≤ w.frm then v :: w :: r else w :: ins v r
def isort : List Ivl → List Ivl
  | [] => []
  | v :: r => ins v (isort r)
theorem ins_perm (v : Ivl) : ∀ l : List Ivl, (ins v l).Perm (v :: l)
  | [] => .refl _
  | w :: r => by
    rw [ins]; split
    · exact .refl _
    · exact ((ins_perm v r).cons w).trans (.swap v w r)
theorem isort_perm : ∀ l : List Ivl, (isort l).Perm l
  | [] => .refl _
  | v :: r => (ins_perm v _).trans ((isort_perm r).cons v)
theorem ins_inc (v : Ivl) : ∀ l : List Ivl, l.Pairwise (fun a b => a.frm ≤ b.frm) → (ins v l).Pairwise (fun a b => a.frm ≤ b.frm)
  | [], _ => by simp [ins]
  | w :: r, h => by
    obtain ⟨h1, h2⟩ := List.pairwise_cons.1 h
    rw [ins]; split
    · refine List.pairwise_cons.2 ⟨fun x hx => ?_, h⟩
      rcases List.mem_cons.1 hx with rfl | hx
      · assumption
      · have := h1 x hx; omega
    · refine List.pairwise_cons.2 ⟨fun x hx => ?_, ins_inc v r h2⟩
      rcases List.mem_cons.1 ((ins_perm v r).mem_iff.1 hx) with rfl | hx
      · omega
      · exact h1 x hx
theorem isort_inc : ∀ l : List Ivl, (isort l).Pairwise (fun a b => a.frm ≤ b.frm)
  | [] => .nil
  | v :: r => ins_inc v _ (isort_inc r)
def mstep (out : List Ivl) (v : Ivl) : List Ivl := match out[out.length - 1]? with
  | some w => if v.frm ≤ w.to then out.set (out.length - 1) ⟨w.frm, max w.to v.to⟩ else out ++ [v]
  | none => out ++ [v]
def mergeF (l : List Ivl) : List Ivl := (isort (l.filter good)).foldl mstep []
theorem last_lt {out : List Ivl} {w v : Ivl} (hp : Plain out) (hw : out[out.length - 1]? = some w) (h : w.to < v.frm) : ∀ x ∈ out, x.to < v.frm := by
  have hsp := last_split hw
  intro x hx
  rw [hsp] at hx hp
  obtain ⟨_, _, p3⟩ := List.pairwise_append.1 hp.1
  rcases List.mem_append.1 hx with hx | hx
  · have := p3 x hx w (by simp); have := (hp.2 w (by simp)).2.1; omega
  · simp at hx; subst hx; exact h
theorem MI.step {s out : List Ivl} {k : Nat} {v : Ivl} (h : MI s k out) (hs : s.Pairwise fun a b => a.frm ≤ b.frm) (hv : s[k]? = some v) (hf : full v) : MI s (k + 1) (mstep out v) := by
  unfold mstep
  split
  · rename_i w hw
    split
    · exact h.join hv hf hw (by assumption)
    · exact h.new hs hv hf (last_lt h.plain hw (by omega))
  · rename_i hn
    refine h.new hs hv hf ?_
    cases out with
    | nil => simp
    | cons x r => simp at hn
theorem MI.fold {s : List Ivl} (hs : s.Pairwise fun a b => a.frm ≤ b.frm) (hf : ∀ v ∈ s, full v) : ∀ k : Nat, k ≤ s.length → MI s k ((s.take k).foldl mstep [])
  | 0, _ => by simpa using MI.start s
  | k + 1, hk => by
    obtain ⟨v, hv⟩ := getElem_some (show k < s.length by omega)
    rw [take_snoc _ _ _ hv, List.foldl_append]
    exact (MI.fold hs hf k (by omega)).step hs hv (hf v (List.mem_of_getElem? hv))
theorem cov_good {l s : List Ivl} (h : s.Perm (l.filter good)) (t : Int) : cov s t ↔ cov l t := by
  constructor
  · rintro ⟨v, hv, h'⟩
    exact ⟨v, (List.mem_filter.1 (h.mem_iff.1 hv)).1, h'⟩
  · rintro ⟨v, hv, h1, h2, h3⟩
    exact ⟨v, h.mem_iff.2 (List.mem_filter.2 ⟨hv, decide_eq_true ⟨h1.1, by omega, h1.2.2⟩⟩), h1, h2, h3⟩
theorem merge_of {l s out : List Ivl} (hp : s.Perm (l.filter good)) (h : MI s s.length out) : Plain out ∧ ∀ t, cov out t ↔ cov l t :=
  ⟨h.plain, fun t => by rw [h.same, List.take_length, cov_good hp]⟩
theorem merge_spec (l : List Ivl) : Plain (mergeF l) ∧ ∀ t, cov (mergeF l) t ↔ cov l t := by
  have hp := isort_perm (l.filter good)
  refine merge_of hp ?_
  have := MI.fold (isort_inc (l.filter good)) (fun v hv => of_decide_eq_true (List.mem_filter.1 (hp.mem_iff.1 hv)).2) _ (Nat.le_refl _)
  rw [List.take_length] at this
  exact this
theorem merge_uniq {l out : List Ivl} (h1 : Plain out) (h2 : ∀ t, cov out t ↔ cov l t) : out = mergeF l :=
  plain_ext h1 (merge_spec l).1 fun t => (h2 t).trans ((merge_spec l).2 t).symm
theorem merge_len (l : List Ivl) : (mergeF l).length ≤ l.length := by
  have hp := isort_perm (l.filter good)
  have := (MI.fold (isort_inc (l.filter good)) (fun v hv => of_decide_eq_true (List.mem_filter.1 (hp.mem_iff.1 hv)).2) _ (Nat.le_refl _)).len
  rw [List.take_length, hp.length_eq] at this
  exact Nat.le_trans this (List.length_filter_le _ _)

/-! Minus -/
def tl (f : Int) (v : Ivl) : List Ivl := if f < v.to then [⟨f, v.to⟩] else []
def cutI (f : Int) (v : Ivl) : List Ivl → List Ivl
  | [] => tl f v
  | h :: r => if v.to ≤ h.frm then tl f v else (if f < h.frm then [⟨f, h.frm⟩] else []) ++ cutI h.to v r
def past (f : Int) (h : Ivl) : Bool := decide (h.to ≤ f)
def minusStep (s : List Ivl × List Ivl) (v : Ivl) : List Ivl × List Ivl := (s.1 ++ cutI v.frm v (s.2.dropWhile (past v.frm)), s.2.dropWhile (past v.frm))
def minusTo (A B : List Ivl) (k : Nat) : List Ivl × List Ivl := (A.take k).foldl minusStep ([], B)
def minusF (a b : List Ivl) : List Ivl := ((mergeF a).foldl minusStep ([], mergeF b)).1
theorem tl_spec (f : Int) (v : Ivl) (h0 : 0 ≤ f) (h1 : v.to ≤ 20000000) : (Plain (tl f v) ∧ ∀ p ∈ tl f v, f ≤ p.frm ∧ p.to ≤ v.to) ∧ ∀ t, cov (tl f v) t ↔ (f ≤ t ∧ t < v.to) ∧ ¬ cov [] t := by
    rw [tl]
    split
    · refine ⟨⟨⟨by simp, fun p hp => ?_⟩, fun p hp => ?_⟩, fun t => ?_⟩
      · simp at hp; subst hp; exact ⟨h0, by assumption, h1⟩
      · simp at hp; subst hp; exact ⟨Int.le_refl _, Int.le_refl _⟩
      · simp only [cov, List.mem_singleton, exists_eq_left, at1, validI]
        simp
        omega
    · refine ⟨⟨Plain.nil, by simp⟩, fun t => ?_⟩
      constructor
      · intro h; exact absurd h (cov_nil _)
      · rintro ⟨h, _⟩; omega
theorem cut_spec : ∀ (H : List Ivl) (f : Int) (v : Ivl), Plain H → (∀ h ∈ H, f < h.to) → 0 ≤ f → v.to ≤ 20000000 →
    (Plain (cutI f v H) ∧ ∀ p ∈ cutI f v H, f ≤ p.frm ∧ p.to ≤ v.to) ∧ ∀ t, cov (cutI f v H) t ↔ (f ≤ t ∧ t < v.to) ∧ ¬ cov H t
  | [], f, v, _, _, h0, h1 => tl_spec f v h0 h1
  | h :: r, f, v, hp, hf, h0, h1 => by
    have fh := hp.head
    have hlt := hp.lt
    have hf1 := hf h (by simp)
    rw [cutI]
    split
    · -- all holes lie behind v
      rename_i hv
      have hn : ∀ t, t < v.to → ¬ cov (h :: r) t := by
        rintro t ht ⟨x, hx, _, h2, _⟩
        rcases List.mem_cons.1 hx with rfl | hx
        · omega
        · have := hlt x hx; have := fh.2.1; omega
      obtain ⟨⟨g1, g2⟩, g3⟩ := tl_spec f v h0 h1
      refine ⟨⟨g1, g2⟩, fun t => ?_⟩
      rw [g3]
      constructor
      · rintro ⟨h, _⟩; exact ⟨h, hn t h.2⟩
      · rintro ⟨h, _⟩; exact ⟨h, cov_nil _⟩
    · rename_i hv
      obtain ⟨⟨g1, g2⟩, g3⟩ := cut_spec r h.to v hp.tail (fun x hx => by have := hlt x hx; have := (hp.tail.2 x hx).2.1; omega) (by have := fh.1; have := fh.2.1; omega) h1
      have hcov : ∀ t, cov (h :: r) t ↔ (h.frm ≤ t ∧ t < h.to) ∨ cov r t := fun t => by
        rw [cov_cons]
        refine or_congr_left ⟨fun h => h.2, fun h' => ⟨fh.valid, h'⟩⟩
      have hrl : ∀ t, cov r t → h.to < t := by
        rintro t ⟨x, hx, _, h2, _⟩
        have := hlt x hx; omega
      split
      · rename_i hfh
        refine ⟨⟨⟨List.pairwise_append.2 ⟨by simp, g1.1, fun a ha b hb => ?_⟩, fun p hp => ?_⟩, fun p hp => ?_⟩, fun t => ?_⟩
        · simp at ha; subst ha
          have := (g2 b hb).1; have := fh.2.1
          show h.frm < b.frm; omega
        · rcases List.mem_append.1 hp with hp | hp
          · simp at hp; subst hp; exact ⟨h0, hfh, by show h.frm ≤ 20000000; have := fh.2.1; have := fh.2.2; omega⟩
          · exact g1.2 p hp
        · rcases List.mem_append.1 hp with hp | hp
          · simp at hp; subst hp; exact ⟨Int.le_refl _, by show h.frm ≤ v.to; omega⟩
          · have := g2 p hp; exact ⟨by omega, this.2⟩
        · rw [cov_append, g3, hcov]
          have e : cov [(⟨f, h.frm⟩ : Ivl)] t ↔ f ≤ t ∧ t < h.frm := by
            simp only [cov, List.mem_singleton, exists_eq_left, at1, validI]
            have := fh.2.1; have := fh.2.2
            constructor
            · rintro ⟨_, h⟩; exact h
            · intro h'; exact ⟨⟨h0, by omega, by omega⟩, h'⟩
          rw [e]
          constructor
          · rintro (⟨h2, h3⟩ | ⟨h2, h3⟩)
            · refine ⟨⟨h2, by omega⟩, ?_⟩
              rintro (h4 | h4)
              · omega
              · have := hrl t h4; have := fh.2.1; omega
            · refine ⟨⟨by omega, h2.2⟩, ?_⟩
              rintro (h4 | h4)
              · omega
              · exact h3 h4
          · rintro ⟨h2, h3⟩
            by_cases hc : t < h.frm
            · exact .inl ⟨h2.1, hc⟩
            · refine .inr ⟨⟨?_, h2.2⟩, fun h => h3 (.inr h)⟩
              by_cases h4 : h.to ≤ t
              · exact h4
              · exact absurd (.inl ⟨by omega, by omega⟩) h3
      · rename_i hfh
        rw [List.nil_append]
        refine ⟨⟨g1, fun p hp => ?_⟩, fun t => ?_⟩
        · have := g2 p hp; exact ⟨by omega, this.2⟩
        · rw [g3, hcov]
          constructor
          · rintro ⟨h2, h3⟩
            refine ⟨⟨by omega, h2.2⟩, ?_⟩
            rintro (h4 | h4)
            · omega
            · exact h3 h4
          · rintro ⟨h2, h3⟩
            refine ⟨⟨?_, h2.2⟩, fun h => h3 (.inr h)⟩
            by_cases h4 : h.to ≤ t
            · exact h4
            · exact absurd (.inl ⟨by omega, by omega⟩) h3
theorem drop_past {f : Int} : ∀ {H : List Ivl}, Plain H → (∀ h ∈ H.dropWhile (past f), f < h.to) ∧ ∀ t, f ≤ t → (cov (H.dropWhile (past f)) t ↔ cov H t)
  | [], _ => by simp
  | h :: r, hp => by
    rw [List.dropWhile_cons]
    by_cases hc : h.to ≤ f
    · rw [if_pos (by simpa [past] using hc)]
      obtain ⟨g1, g2⟩ := drop_past (f := f) hp.tail
      refine ⟨g1, fun t ht => (g2 t ht).trans ?_⟩
      rw [cov_cons]
      constructor
      · exact .inr
      · rintro (h' | h')
        · have := h'.2.2; omega
        · exact h'
    · rw [if_neg (by simpa [past] using hc)]
      refine ⟨fun x hx => ?_, fun t _ => Iff.rfl⟩
      rcases List.mem_cons.1 hx with rfl | hx
      · omega
      · have := hp.lt x hx; have := (hp.tail.2 x hx).2.1; omega
theorem minus_fold : ∀ (A H out : List Ivl), Plain A → Plain H → Plain out → (∀ p ∈ out, ∀ v ∈ A, p.to < v.frm) →
    Plain (A.foldl minusStep (out, H)).1 ∧ ∀ t, cov (A.foldl minusStep (out, H)).1 t ↔ cov out t ∨ (cov A t ∧ ¬ cov H t)
  | [], H, out, _, _, ho, _ => ⟨ho, fun t => by
      show cov out t ↔ _
      constructor
      · exact .inl
      · rintro (h | ⟨h, _⟩)
        · exact h
        · exact absurd h (cov_nil _)⟩
  | v :: A, H, out, ha, hh, ho, hlt => by
    have fv := ha.head
    obtain ⟨d1, d2⟩ := drop_past (f := v.frm) hh
    have hpd : Plain (H.dropWhile (past v.frm)) := hh.sub (List.dropWhile_sublist _)
    obtain ⟨⟨c1, c2⟩, c3⟩ := cut_spec (H.dropWhile (past v.frm)) v.frm v hpd d1 fv.1 fv.2.2
    have ho2 : Plain (out ++ cutI v.frm v (H.dropWhile (past v.frm))) := by
      refine ⟨List.pairwise_append.2 ⟨ho.1, c1.1, fun a ha' b hb => ?_⟩, fun p hp => ?_⟩
      · have := hlt a ha' v (by simp); have := (c2 b hb).1; omega
      · rcases List.mem_append.1 hp with hp | hp
        · exact ho.2 p hp
        · exact c1.2 p hp
    obtain ⟨i1, i2⟩ := minus_fold A (H.dropWhile (past v.frm)) (out ++ cutI v.frm v (H.dropWhile (past v.frm))) ha.tail hpd ho2 (fun p hp w hw => by
      rcases List.mem_append.1 hp with hp | hp
      · exact hlt p hp w (by simp [hw])
      · have := (c2 p hp).2; have := ha.lt w hw; omega)
    rw [List.foldl_cons]
    refine ⟨i1, fun t => ?_⟩
    show cov (A.foldl minusStep (out ++ _, _)).1 t ↔ _
    rw [i2, cov_append, c3, cov_cons]
    have hA : cov A t → v.frm ≤ t := by
      rintro ⟨x, hx, _, h2, _⟩
      have := ha.lt x hx; have := fv.2.1; omega
    constructor
    · rintro ((h | ⟨h, h'⟩) | ⟨h, h'⟩)
      · exact .inl h
      · exact .inr ⟨.inl ⟨fv.valid, h⟩, fun hc => h' ((d2 t h.1).2 hc)⟩
      · exact .inr ⟨.inr h, fun hc => h' ((d2 t (hA h)).2 hc)⟩
    · rintro (h | ⟨h | h, h'⟩)
      · exact .inl (.inl h)
      · exact .inl (.inr ⟨h.2, fun hc => h' ((d2 t h.2.1).1 hc)⟩)
      · exact .inr ⟨h, fun hc => h' ((d2 t (hA h)).1 hc)⟩
theorem minus_spec (a b : List Ivl) : Plain (minusF a b) ∧ ∀ t, cov (minusF a b) t ↔ cov a t ∧ ¬ cov b t := by
  obtain ⟨h1, h2⟩ := minus_fold (mergeF a) (mergeF b) [] (merge_spec a).1 (merge_spec b).1 Plain.nil (by simp)
  refine ⟨h1, fun t => (h2 t).trans ?_⟩
  rw [(merge_spec a).2, (merge_spec b).2]
  constructor
  · rintro (h | h)
    · exact absurd h (cov_nil _)
    · exact h
  · exact .inr
theorem minus_uniq {a b out : List Ivl} (h1 : Plain out) (h2 : ∀ t, cov out t ↔ cov a t ∧ ¬ cov b t) : out = minusF a b :=
  plain_ext h1 (minus_spec a b).1 fun t => (h2 t).trans ((minus_spec a b).2 t).symm
end Go.Proofs.Ytmehmnlhnbeeeaa
