/- Shortest paths, plain. No program in sight. -/
import Derived.Test.YtoeichkblclfaaaT1
namespace Go.Proofs.Ytoeichkblclfaaa
open Go.RowKit
structure Ed where
  id : Int
  fr : Int
  to : Int
  cost : Int
  deriving DecidableEq
structure Lab where
  c : Int
  k : Int
  deriving DecidableEq
abbrev encD (e : Ed) : List CV := [.int .i64 e.id, .int .i64 e.fr, .int .i64 e.to, .int .i64 e.cost]
abbrev encB (v : Lab) : List CV := [.int .i64 v.c, .int .i64 v.k]
def lessB (a b : Lab) : Bool := decide (a.c < b.c ∨ (a.c = b.c ∧ a.k < b.k))
def plusB (v : Lab) (e : Ed) : Lab := ⟨v.c + e.cost, v.k + 1⟩
theorem not_less {a b : Lab} : lessB a b = false ↔ b.c < a.c ∨ (b.c = a.c ∧ b.k ≤ a.k) := by
  unfold lessB; rw [decide_eq_false_iff_not]; omega
theorem less_iff {a b : Lab} : lessB a b = true ↔ a.c < b.c ∨ (a.c = b.c ∧ a.k < b.k) := by unfold lessB; rw [decide_eq_true_eq]
theorem nl_refl (a : Lab) : lessB a a = false := not_less.2 (.inr ⟨rfl, Int.le_refl _⟩)
theorem nl_trans {a b c : Lab} (h1 : lessB a b = false) (h2 : lessB b c = false) : lessB a c = false := by
  rw [not_less] at *; omega
theorem nl_plus {a b : Lab} (e : Ed) (h : lessB a b = false) : lessB (plusB a e) (plusB b e) = false := by
  rw [not_less] at *; unfold plusB; simp only; omega
theorem nl_antisymm {a b : Lab} (h1 : lessB a b = false) (h2 : lessB b a = false) : a = b := by
  rw [not_less] at *
  cases a; cases b; simp only at h1 h2
  congr 1 <;> omega
abbrev DM := Int → Option Lab
/-- What an edge offers its From, if it is better than what there is. -/
def betterO (D : DM) (e : Ed) : Option Lab := match D e.to with
  | none => none
  | some v => match D e.fr with
    | none => some (plusB v e)
    | some o => if lessB (plusB v e) o = true then some (plusB v e) else none
def setD (D : DM) (n : Int) (v : Lab) : DM := fun k => if k = n then some v else D k
def relD (D : DM) (e : Ed) : DM := match betterO D e with
  | none => D
  | some v => setD D e.fr v
abbrev passD (E : List Ed) (D : DM) : DM := E.foldl relD D
inductive Wk (E : List Ed) (t : Int) : Int → Lab → Prop
  | nil : Wk E t t ⟨0, 0⟩
  | cons {e : Ed} {v : Lab} : e ∈ E → Wk E t e.to v → Wk E t e.fr (plusB v e)
abbrev OkE (E : List Ed) : Prop := ∀ e ∈ E, 0 ≤ e.cost ∧ e.cost ≤ 1000000
theorem wk_pos {E : List Ed} {t n : Int} {v : Lab} (hE : OkE E) (h : Wk E t n v) : 0 ≤ v.c ∧ 0 ≤ v.k := by
  induction h with
  | nil => exact ⟨Int.le_refl _, Int.le_refl _⟩
  | cons he _ ih => have := hE _ he; unfold plusB; simp only; omega
/-- One table tells at least what another tells. -/
def Tells (D' D : DM) : Prop := ∀ n w, D n = some w → ∃ w', D' n = some w' ∧ lessB w w' = false
theorem Tells.refl (D : DM) : Tells D D := fun _ w h => ⟨w, h, nl_refl w⟩
theorem Tells.trans {A B C : DM} (h1 : Tells A B) (h2 : Tells B C) : Tells A C := fun n w h => by
  obtain ⟨w1, q1, q2⟩ := h2 n w h
  obtain ⟨w2, q3, q4⟩ := h1 n w1 q1
  exact ⟨w2, q3, nl_trans q2 q4⟩
theorem better_some {D : DM} {e : Ed} {v : Lab} (h : betterO D e = some v) : ∃ w, D e.to = some w ∧ v = plusB w e ∧ ∀ o, D e.fr = some o → lessB v o = true := by
  unfold betterO at h
  cases hw : D e.to with
  | none => rw [hw] at h; cases h
  | some w =>
    rw [hw] at h
    cases ho : D e.fr with
    | none => rw [ho] at h; cases h; exact ⟨w, rfl, rfl, fun o q => by cases q⟩
    | some o =>
      rw [ho] at h
      simp only at h
      split at h
      · rename_i hl; cases h; exact ⟨w, rfl, rfl, fun o' q => by cases q; exact hl⟩
      · cases h
theorem better_none {D : DM} {e : Ed} {w : Lab} (h : betterO D e = none) (hw : D e.to = some w) : ∃ o, D e.fr = some o ∧ lessB (plusB w e) o = false := by
  unfold betterO at h
  rw [hw] at h
  cases ho : D e.fr with
  | none => rw [ho] at h; cases h
  | some o =>
    rw [ho] at h
    simp only at h
    split at h
    · cases h
    · rename_i hl; exact ⟨o, rfl, by simpa using hl⟩
theorem less_not {a b : Lab} (h : lessB a b = true) : lessB b a = false := by rw [less_iff] at h; rw [not_less]; omega
theorem rel_tells (D : DM) (e : Ed) : Tells (relD D e) D := by
  intro n w h
  unfold relD
  cases hb : betterO D e with
  | none => exact ⟨w, h, nl_refl w⟩
  | some v =>
    obtain ⟨_, _, _, h3⟩ := better_some hb
    by_cases en : n = e.fr
    · subst en; exact ⟨v, if_pos rfl, less_not (h3 w h)⟩
    · exact ⟨w, (if_neg en).trans h, nl_refl w⟩
theorem pass_tells : ∀ (E : List Ed) (D : DM), Tells (passD E D) D
  | [], D => Tells.refl D
  | e :: r, D => (pass_tells r (relD D e)).trans (rel_tells D e)
def Sound (E : List Ed) (t : Int) (D : DM) : Prop := ∀ n v, D n = some v → Wk E t n v
def Upto (E : List Ed) (t : Int) (D : DM) (r : Int) : Prop := ∀ n v, Wk E t n v → v.k ≤ r → ∃ w, D n = some w ∧ lessB v w = false
theorem rel_sound {E : List Ed} {t : Int} {D : DM} {e : Ed} (he : e ∈ E) (h : Sound E t D) : Sound E t (relD D e) := by
  intro n v hv
  unfold relD at hv
  cases hb : betterO D e with
  | none => rw [hb] at hv; exact h n v hv
  | some z =>
    rw [hb] at hv
    obtain ⟨w, h1, h2, _⟩ := better_some hb
    simp only [setD] at hv
    split at hv
    · rename_i en; cases hv; subst en; rw [h2]; exact .cons he (h _ _ h1)
    · exact h n v hv
theorem pass_sound {E : List Ed} {t : Int} : ∀ (l : List Ed) {D : DM}, (∀ e ∈ l, e ∈ E) → Sound E t D → Sound E t (passD l D)
  | [], _, _, h => h
  | e :: r, _, hl, h => pass_sound r (fun x hx => hl x (by simp [hx])) (rel_sound (hl e (by simp)) h)
theorem rel_reach {D : DM} {e : Ed} {w : Lab} (h : D e.to = some w) : ∃ o, relD D e e.fr = some o ∧ lessB (plusB w e) o = false := by
  cases hb : betterO D e with
  | none =>
    obtain ⟨o, h1, h2⟩ := better_none hb h
    exact ⟨o, by unfold relD; rw [hb]; exact h1, h2⟩
  | some v =>
    obtain ⟨w', h1, h2, _⟩ := better_some hb
    rw [h] at h1; cases h1
    exact ⟨v, by unfold relD; rw [hb]; exact if_pos rfl, by rw [h2]; exact nl_refl _⟩
/-- A pass finds the paths of one edge more. -/
theorem pass_upto {E : List Ed} {t : Int} {D : DM} {r : Int} (h0 : ∃ o, D t = some o ∧ lessB ⟨0, 0⟩ o = false) (h : Upto E t D r) : Upto E t (passD E D) (r + 1) := by
  intro n v hv hk
  cases hv with
  | nil =>
    obtain ⟨w, h1, h2⟩ := h0
    obtain ⟨w', h3, h4⟩ := pass_tells E D t w h1
    exact ⟨w', h3, nl_trans h2 h4⟩
  | @cons e w he hw =>
    unfold plusB at hk; simp only at hk
    obtain ⟨w0, h1, h2⟩ := h _ _ hw (by omega)
    obtain ⟨a, b, hab⟩ := List.append_of_mem he
    have hp : passD E D = passD b (relD (passD a D) e) := by rw [hab]; unfold passD; rw [List.foldl_append]; rfl
    obtain ⟨w1, h3, h4⟩ := pass_tells a D _ _ h1
    obtain ⟨o, h5, h6⟩ := rel_reach h3
    obtain ⟨z, h7, h8⟩ := pass_tells b (relD (passD a D) e) _ _ h5
    rw [hp]
    exact ⟨z, h7, nl_trans (nl_trans (nl_plus e (nl_trans h2 h4)) h6) h8⟩
/-- What cannot be improved is least. -/
theorem fix_upto {E : List Ed} {t : Int} {D : DM} (h0 : ∃ o, D t = some o ∧ lessB ⟨0, 0⟩ o = false) (hf : ∀ e ∈ E, betterO D e = none) : ∀ {n : Int} {v : Lab}, Wk E t n v → ∃ w, D n = some w ∧ lessB v w = false := by
  intro n v hv
  induction hv with
  | nil => exact h0
  | cons he _ ih =>
    obtain ⟨w, h1, h2⟩ := ih
    obtain ⟨o, h3, h4⟩ := better_none (hf _ he) h1
    exact ⟨o, h3, nl_trans (nl_plus _ h2) h4⟩

/-! paths without cycles -/
def chainE : Int → List Ed → Int → Prop
  | n, [], t => n = t
  | n, e :: r, t => n = e.fr ∧ chainE e.to r t
def costE : List Ed → Int
  | [] => 0
  | e :: r => e.cost + costE r
theorem chain_app : ∀ {a b : List Ed} {n t : Int}, chainE n (a ++ b) t ↔ ∃ m, chainE n a m ∧ chainE m b t
  | [], b, n, t => ⟨fun h => ⟨n, rfl, h⟩, fun ⟨m, h1, h2⟩ => by cases (show n = m from h1); exact h2⟩
  | e :: r, b, n, t => by
    show n = e.fr ∧ chainE e.to (r ++ b) t ↔ ∃ m, (n = e.fr ∧ chainE e.to r m) ∧ chainE m b t
    rw [chain_app]
    exact ⟨fun ⟨h, m, h1, h2⟩ => ⟨m, ⟨h, h1⟩, h2⟩, fun ⟨m, ⟨h, h1⟩, h2⟩ => ⟨h, m, h1, h2⟩⟩
theorem cost_app : ∀ (a b : List Ed), costE (a ++ b) = costE a + costE b
  | [], b => by simp [costE]
  | e :: r, b => by simp only [List.cons_append, costE, cost_app r b]; omega
theorem cost_pos {E : List Ed} (hE : OkE E) : ∀ {p : List Ed}, (∀ e ∈ p, e ∈ E) → 0 ≤ costE p
  | [], _ => Int.le_refl _
  | e :: r, h => by
    have := hE e (h e (by simp))
    have := cost_pos hE (p := r) fun x hx => h x (by simp [hx])
    simp only [costE]; omega
theorem wk_path {E : List Ed} {t n : Int} {v : Lab} (h : Wk E t n v) : ∃ p, chainE n p t ∧ (∀ e ∈ p, e ∈ E) ∧ v.c = costE p ∧ v.k = (p.length : Int) := by
  induction h with
  | nil => exact ⟨[], rfl, by simp, rfl, rfl⟩
  | @cons e v he _ ih =>
    obtain ⟨p, h1, h2, h3, h4⟩ := ih
    refine ⟨e :: p, ⟨rfl, h1⟩, fun x hx => ?_, ?_, ?_⟩
    · rcases List.mem_cons.1 hx with h | h
      · subst h; exact he
      · exact h2 x h
    · unfold plusB; simp only [costE]; omega
    · unfold plusB; simp only [List.length_cons]; omega
theorem path_wk {E : List Ed} {t : Int} : ∀ {p : List Ed} {n : Int}, chainE n p t → (∀ e ∈ p, e ∈ E) → Wk E t n ⟨costE p, p.length⟩
  | [], n, h, _ => by cases (show n = t from h); exact .nil
  | e :: r, n, h, hp => by
    obtain ⟨h1, h2⟩ := h
    subst h1
    have := Wk.cons (hp e (by simp)) (path_wk h2 fun x hx => hp x (by simp [hx]))
    have e2 : plusB ⟨costE r, r.length⟩ e = ⟨costE (e :: r), (e :: r).length⟩ := by
      unfold plusB; simp only [costE, List.length_cons]; congr 1 <;> omega
    rw [e2] at this; exact this
theorem nodup_len : ∀ {p E : List Ed}, p.Nodup → (∀ e ∈ p, e ∈ E) → p.length ≤ E.length
  | [], _, _, _ => Nat.zero_le _
  | x :: r, E, hn, hs => by
    obtain ⟨h1, h2⟩ := List.nodup_cons.1 hn
    have hx := hs x (by simp)
    have := nodup_len (E := E.erase x) h2 fun e he => (List.mem_erase_of_ne (fun q => h1 (by subst q; exact he))).2 (hs e (by simp [he]))
    have hl := List.length_erase_of_mem hx
    have hp := List.length_pos_of_mem hx
    simp only [List.length_cons]; omega
theorem dup_split : ∀ {p : List Ed}, ¬ p.Nodup → ∃ a e b d, p = a ++ e :: (b ++ e :: d)
  | [], h => absurd List.nodup_nil h
  | x :: r, h => by
    by_cases hx : x ∈ r
    · obtain ⟨b, d, hb⟩ := List.append_of_mem hx
      exact ⟨[], x, b, d, by rw [hb]; rfl⟩
    · obtain ⟨a, e, b, d, hr⟩ := dup_split (p := r) fun hn => h (List.nodup_cons.2 ⟨hx, hn⟩)
      exact ⟨x :: a, e, b, d, by rw [hr]; rfl⟩
theorem cut_path {E : List Ed} {t n : Int} (hE : OkE E) {p : List Ed} (h1 : chainE n p t) (h2 : ∀ e ∈ p, e ∈ E) (hl : E.length < p.length) : ∃ q, chainE n q t ∧ (∀ e ∈ q, e ∈ E) ∧ q.length < p.length ∧ costE q ≤ costE p := by
  obtain ⟨a, e, b, d, rfl⟩ := dup_split (p := p) fun hn => absurd (nodup_len hn h2) (by omega)
  obtain ⟨m, g1, g2, g3⟩ := chain_app.1 h1
  obtain ⟨m2, g4, g5, g6⟩ := chain_app.1 g3
  refine ⟨a ++ e :: d, chain_app.2 ⟨m, g1, g2, g6⟩, fun x hx => h2 x ?_, ?_, ?_⟩
  · simp only [List.mem_append, List.mem_cons] at hx ⊢
    rcases hx with h | h | h
    · exact .inl h
    · exact .inr (.inl h)
    · exact .inr (.inr (.inr (.inr h)))
  · simp only [List.length_append, List.length_cons]; omega
  · have hb := cost_pos hE (p := b) fun x hx => h2 x (by simp [hx])
    have he := hE e (h2 e (by simp))
    simp only [cost_app, costE]; omega
theorem short_path {E : List Ed} {t n : Int} (hE : OkE E) : ∀ (m : Nat) {p : List Ed}, p.length ≤ m → chainE n p t → (∀ e ∈ p, e ∈ E) → ∃ q, chainE n q t ∧ (∀ e ∈ q, e ∈ E) ∧ q.length ≤ E.length ∧ q.length ≤ p.length ∧ costE q ≤ costE p
  | 0, p, hm, h1, h2 => ⟨p, h1, h2, by omega, Nat.le_refl _, Int.le_refl _⟩
  | m + 1, p, hm, h1, h2 => by
    by_cases hl : E.length < p.length
    · obtain ⟨q, g1, g2, g3, g4⟩ := cut_path hE h1 h2 hl
      obtain ⟨q', k1, k2, k3, k4, k5⟩ := short_path hE m (p := q) (by omega) g1 g2
      exact ⟨q', k1, k2, k3, by omega, by omega⟩
    · exact ⟨p, h1, h2, by omega, Nat.le_refl _, Int.le_refl _⟩
/-- As many passes as there are edges find all. -/
theorem upto_all {E : List Ed} {t : Int} {D : DM} (hE : OkE E) (h : Upto E t D E.length) {n : Int} {v : Lab} (hv : Wk E t n v) : ∃ w, D n = some w ∧ lessB v w = false := by
  obtain ⟨p, h1, h2, h3, h4⟩ := wk_path hv
  obtain ⟨q, g1, g2, g3, g4, g5⟩ := short_path hE p.length (Nat.le_refl _) h1 h2
  obtain ⟨w, k1, k2⟩ := h n _ (path_wk g1 g2) (by simp only; omega)
  refine ⟨w, k1, nl_trans ?_ k2⟩
  rw [not_less]; simp only; omega
/-- A table of the least paths. -/
structure Least (E : List Ed) (t : Int) (D : DM) : Prop where
  sound : Sound E t D
  all : ∀ n v, Wk E t n v → ∃ w, D n = some w ∧ lessB v w = false
theorem Wk.mono {E F : List Ed} (h : ∀ e ∈ E, ∃ f ∈ F, f.fr = e.fr ∧ f.to = e.to ∧ f.cost = e.cost) {t n : Int} {v : Lab} (hw : Wk E t n v) : Wk F t n v := by
  induction hw with
  | nil => exact .nil
  | @cons e v he _ ih =>
    obtain ⟨f, h1, h2, h3, h4⟩ := h e he
    rw [← h3] at ih
    have := Wk.cons h1 ih
    rw [h2] at this
    unfold plusB at this ⊢
    rw [h4] at this; exact this
/-- There is one such table alone. -/
theorem least_uniq {E F : List Ed} {t : Int} {D G : DM} (h1 : Least E t D) (h2 : Least F t G) (hEF : ∀ e ∈ E, ∃ f ∈ F, f.fr = e.fr ∧ f.to = e.to ∧ f.cost = e.cost) (hFE : ∀ e ∈ F, ∃ f ∈ E, f.fr = e.fr ∧ f.to = e.to ∧ f.cost = e.cost) (n : Int) : D n = G n := by
  cases hd : D n with
  | none =>
    cases hg : G n with
    | none => rfl
    | some w =>
      obtain ⟨z, q, _⟩ := h1.all n w ((h2.sound n w hg).mono hFE)
      rw [hd] at q; cases q
  | some v =>
    obtain ⟨w, hg, q1⟩ := h2.all n v ((h1.sound n v hd).mono hEF)
    obtain ⟨v', hd', q2⟩ := h1.all n w ((h2.sound n w hg).mono hFE)
    rw [hd] at hd'; cases hd'
    rw [hg, nl_antisymm q1 q2]
theorem Least.at_t {E : List Ed} {t : Int} {D : DM} (hE : OkE E) (h : Least E t D) : D t = some ⟨0, 0⟩ := by
  obtain ⟨w, h1, h2⟩ := h.all t _ .nil
  have hp := wk_pos hE (h.sound t w h1)
  rw [h1]
  congr 1
  rw [not_less] at h2
  simp only at h2
  cases w; simp only at h2 hp
  congr 1 <;> omega
/-- From each node on there is an edge that begins a least path. -/
theorem Least.next {E : List Ed} {t : Int} {D : DM} (h : Least E t D) {n : Int} {v : Lab} (hv : D n = some v) (hn : n ≠ t) : ∃ e ∈ E, e.fr = n ∧ ∃ w, D e.to = some w ∧ v = plusB w e := by
  have hw := h.sound n v hv
  cases hw with
  | nil => exact absurd rfl hn
  | @cons e w he hw =>
    obtain ⟨w', h1, h2⟩ := h.all _ _ hw
    obtain ⟨v', h3, h4⟩ := h.all _ _ (Wk.cons he (h.sound _ _ h1))
    rw [hv] at h3; cases h3
    have := nl_antisymm (nl_plus e h2) h4
    exact ⟨e, he, rfl, w', h1, this⟩
theorem Least.pos {E : List Ed} {t : Int} {D : DM} (hE : OkE E) (h : Least E t D) {n : Int} {v : Lab} (hv : D n = some v) : 0 ≤ v.c ∧ 0 ≤ v.k := wk_pos hE (h.sound n v hv)
/-- A path of some edges does not begin at its end. -/
theorem Least.ne {E : List Ed} {t : Int} {D : DM} (hE : OkE E) (h : Least E t D) {n : Int} {v : Lab} (hv : D n = some v) : n = t ↔ v.k ≤ 0 := by
  have hp := h.pos hE hv
  refine ⟨fun e => ?_, fun hk => ?_⟩
  · subst e; rw [h.at_t hE] at hv; cases hv; exact Int.le_refl _
  · refine Classical.byContradiction fun hn => ?_
    obtain ⟨e, he, _, w, h1, h2⟩ := h.next hv hn
    have := (h.pos hE h1).2
    rw [h2] at hk; unfold plusB at hk; simp only at hk
    omega

/-! the table as a map -/
def kvD (ms : List (Int × Lab)) : List (List Int × List CV) := ms.map fun p => ([p.1], encB p.2)
def getM : List (Int × Lab) → DM
  | [], _ => none
  | p :: r, n => if n = p.1 then some p.2 else getM r n
def putM (n : Int) (v : Lab) : List (Int × Lab) → List (Int × Lab)
  | [] => [(n, v)]
  | p :: r => if n = p.1 then (p.1, v) :: r else p :: putM n v r
theorem find_kvD (n : Int) : ∀ ms, findKV [n] (kvD ms) = (getM ms n).map encB
  | [] => rfl
  | p :: r => by
    unfold kvD; rw [List.map_cons, findKV, getM]
    by_cases h : n = p.1
    · rw [if_pos (by rw [h]), if_pos h]; rfl
    · rw [if_neg (by simpa using h), if_neg h]; exact find_kvD n r
theorem set_kvD (n : Int) (v : Lab) : ∀ ms, setKV [n] (encB v) (kvD ms) = kvD (putM n v ms)
  | [] => rfl
  | p :: r => by
    unfold kvD; rw [List.map_cons, setKV, putM]
    by_cases h : n = p.1
    · rw [if_pos (by rw [h]), if_pos h]; rfl
    · rw [if_neg (by simpa using h), if_neg h, List.map_cons]; congr 1; exact set_kvD n v r
theorem getM_put (n : Int) (v : Lab) : ∀ ms, getM (putM n v ms) = setD (getM ms) n v
  | [] => by funext k; unfold putM setD; rw [getM]; rfl
  | p :: r => by
    funext k
    rw [putM]
    by_cases h : n = p.1
    · subst h
      rw [if_pos rfl, getM]; unfold setD; rw [getM]
      by_cases hk : k = p.1
      · rw [if_pos hk, if_pos hk]
      · rw [if_neg hk, if_neg hk, if_neg hk]
    · rw [if_neg h, getM, getM_put n v r]; unfold setD; rw [getM]
      by_cases hk : k = p.1
      · rw [if_pos hk, if_neg (by omega), if_pos hk]
      · rw [if_neg hk, if_neg hk]
def stepT (ms : List (Int × Lab)) (e : Ed) : List (Int × Lab) := match betterO (getM ms) e with
  | none => ms
  | some v => putM e.fr v ms
theorem getM_step (ms : List (Int × Lab)) (e : Ed) : getM (stepT ms e) = relD (getM ms) e := by
  unfold stepT relD
  cases betterO (getM ms) e with
  | none => rfl
  | some v => exact getM_put ..
abbrev passT (E : List Ed) (ms : List (Int × Lab)) : List (Int × Lab) := E.foldl stepT ms
theorem getM_pass : ∀ (E : List Ed) (ms : List (Int × Lab)), getM (passT E ms) = passD E (getM ms)
  | [], _ => rfl
  | e :: r, ms => (getM_pass r (stepT ms e)).trans (by rw [getM_step]; rfl)
def chgT : List Ed → List (Int × Lab) → Bool
  | [], _ => false
  | e :: r, ms => (betterO (getM ms) e).isSome || chgT r (stepT ms e)
theorem chg_false : ∀ {E : List Ed} {ms : List (Int × Lab)}, chgT E ms = false → passT E ms = ms ∧ ∀ e ∈ E, betterO (getM ms) e = none
  | [], _, _ => ⟨rfl, by simp⟩
  | e :: r, ms, h => by
    rw [chgT, Bool.or_eq_false_iff] at h
    have hb : betterO (getM ms) e = none := by simpa using h.1
    have hs : stepT ms e = ms := by unfold stepT; rw [hb]
    rw [hs] at h
    obtain ⟨h1, h2⟩ := chg_false h.2
    refine ⟨by show passT r (stepT ms e) = ms; rw [hs]; exact h1, fun x hx => ?_⟩
    rcases List.mem_cons.1 hx with q | q
    · subst q; exact hb
    · exact h2 x q
def roundsT (E : List Ed) : Nat → List (Int × Lab) → List (Int × Lab)
  | 0, ms => ms
  | k + 1, ms => if chgT E ms = true then roundsT E k (passT E ms) else passT E ms
def lengthsF (E : List Ed) (t : Int) : List (Int × Lab) := roundsT E E.length [(t, ⟨0, 0⟩)]
/-- A table has a label at the target. -/
abbrev AtT (t : Int) (D : DM) : Prop := ∃ o, D t = some o ∧ lessB ⟨0, 0⟩ o = false
theorem pass_at {t : Int} {D : DM} (E : List Ed) (h : AtT t D) : AtT t (passD E D) := by
  obtain ⟨w, h1, h2⟩ := h
  obtain ⟨w', h3, h4⟩ := pass_tells E D t w h1
  exact ⟨w', h3, nl_trans h2 h4⟩
theorem rounds_least {E : List Ed} {t : Int} (hE : OkE E) : ∀ (k : Nat) {ms : List (Int × Lab)}, k ≤ E.length → Sound E t (getM ms) → AtT t (getM ms) → Upto E t (getM ms) (E.length - k) → Least E t (getM (roundsT E k ms))
  | 0, ms, hk, h1, h2, h3 => ⟨h1, fun n v hv => upto_all (D := getM ms) hE (by simpa using h3) hv⟩
  | k + 1, ms, hk, h1, h2, h3 => by
    rw [roundsT]
    by_cases hc : chgT E ms = true
    · rw [if_pos hc]
      refine rounds_least hE k (by omega) ?_ ?_ ?_
      · rw [getM_pass]; exact pass_sound E (fun e he => he) h1
      · rw [getM_pass]; exact pass_at E h2
      · rw [getM_pass]
        have := pass_upto h2 h3
        have q : (E.length : Int) - (k + 1 : Nat) + 1 = E.length - k := by omega
        rw [q] at this; exact this
    · rw [if_neg hc]
      obtain ⟨h4, h5⟩ := chg_false (by simpa using hc)
      rw [h4]
      exact ⟨h1, fun n v hv => fix_upto h2 h5 hv⟩
theorem upto_zero {E : List Ed} {t : Int} {D : DM} (hE : OkE E) (h : AtT t D) : Upto E t D 0 := by
  intro n v hv hk
  cases hv with
  | nil => exact h
  | cons he hw => exact absurd (wk_pos hE hw).2 (by unfold plusB at hk; simp only at hk; omega)
theorem lengths_least {E : List Ed} (hE : OkE E) (t : Int) : Least E t (getM (lengthsF E t)) := by
  have hg : getM [(t, ⟨0, 0⟩)] = fun k => if k = t then some ⟨0, 0⟩ else none := by funext k; rw [getM]; rfl
  have ha : AtT t (getM [(t, ⟨0, 0⟩)]) := ⟨⟨0, 0⟩, by rw [hg]; exact if_pos rfl, nl_refl _⟩
  refine rounds_least hE _ (Nat.le_refl _) ?_ ha (by rw [Int.sub_self]; exact upto_zero hE ha)
  intro n v hv
  rw [hg] at hv
  simp only at hv
  split at hv
  · rename_i q; cases hv; subst q; exact .nil
  · cases hv
/-- A bound of the labels. -/
def Bnd (D : DM) (B : Int) : Prop := ∀ n v, D n = some v → (0 ≤ v.k ∧ v.k ≤ B) ∧ 0 ≤ v.c ∧ v.c ≤ 1000000 * B
theorem Bnd.mono {D : DM} {B C : Int} (h : Bnd D B) (hBC : B ≤ C) : Bnd D C := fun n v hv => by
  have := h n v hv; omega
theorem bnd_step {D : DM} {B : Int} {e : Ed} (hc : 0 ≤ e.cost ∧ e.cost ≤ 1000000) (h : Bnd D B) : Bnd (relD D e) (B + 1) := by
  intro n v hv
  unfold relD at hv
  cases hb : betterO D e with
  | none => rw [hb] at hv; have := h n v hv; omega
  | some z =>
    rw [hb] at hv
    obtain ⟨w, h1, h2, _⟩ := better_some hb
    simp only [setD] at hv
    split at hv
    · cases hv; have := h _ _ h1; subst h2; unfold plusB; simp only; omega
    · have := h n v hv; omega
theorem bnd_pass : ∀ (E : List Ed) {D : DM} {B : Int}, OkE E → Bnd D B → Bnd (passD E D) (B + E.length)
  | [], _, _, _, h => by simpa using h
  | e :: r, D, B, hE, h => by
    have h1 := bnd_step (hE e (by simp)) h
    have := bnd_pass r (fun x hx => hE x (by simp [hx])) h1
    refine this.mono ?_
    simp only [List.length_cons]; omega
theorem bnd_rounds {E : List Ed} (hE : OkE E) (hl : E.length ≤ 1000) : ∀ (k : Nat) {ms : List (Int × Lab)} {B : Int}, Bnd (getM ms) B → Bnd (getM (roundsT E k ms)) (B + 1000 * k)
  | 0, _, _, h => h.mono (by omega)
  | k + 1, ms, B, h => by
    have hp : Bnd (getM (passT E ms)) (B + 1000) := by rw [getM_pass]; exact (bnd_pass E hE h).mono (by omega)
    rw [roundsT]
    split
    · exact (bnd_rounds hE hl k hp).mono (by omega)
    · exact hp.mono (by omega)
theorem bnd_start (t : Int) : Bnd (getM [(t, ⟨0, 0⟩)]) 0 := by
  intro n v hv
  rw [getM] at hv
  split at hv
  · cases hv; simp only; omega
  · cases hv
theorem bnd_lengths {E : List Ed} (hE : OkE E) (hl : E.length ≤ 1000) (t : Int) : Bnd (getM (lengthsF E t)) 1000000 := (bnd_rounds hE hl E.length (bnd_start t)).mono (by omega)

end Go.Proofs.Ytoeichkblclfaaa
