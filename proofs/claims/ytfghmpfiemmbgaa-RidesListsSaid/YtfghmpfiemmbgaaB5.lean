/- The abstract walk is sound: statements in the order of the text. No program in sight. -/
import Derived.Test.YtfghmpfiemmbgaaB4
namespace Go.Proofs.Ytfghmpfiemmbgaa
open Go.RowKit

section
variable {P : Program} {F : Nat → Prop} {w0 w w' : World} {n : Nat} {ι ι' : Iota} {s s' : St} {a : Act}

theorem constV_rep {own : Nat → Prop} {H : List (Nat × Ob)} {nx : Nat} (v : Value) : Rep w own ι H nx (constV v) v := by
  unfold constV
  split
  · exact rep_mk_int _ _
  · exact rep_mk_bool _
  · exact .c _ _ .nil
  · exact .none_ _
theorem evalO_rep (h : Rel F w0 n ι s a w) {x : Operand} {v : SV} (he : evalO s.env x = some v) : Rep w (owned F ι s.heap) ι s.heap s.nx v (a.eval x) := by
  unfold evalO at he
  split at he
  · exact h.env _ _ he
  · cases he; exact constV_rep _
  · cases he; exact .fn _ [] [] rfl fun i s v hs _ => by simp at hs
  · cases he
theorem evalL_rep (h : Rel F w0 n ι s a w) : ∀ {xs : List Operand} {vs : List SV}, evalL s.env xs = some vs → RepList w (owned F ι s.heap) ι s.heap s.nx vs (xs.map a.eval)
  | [], vs, he => by simp [evalL] at he; subst he; exact replist_mk0
  | x :: r, vs, he => by
    simp only [evalL] at he
    split at he
    · rename_i v l h1 h2
      cases he
      exact replist_mk (evalO_rep h h1) (evalL_rep h h2)
    · cases he

theorem step_below {H : List (Nat × Ob)} {nx : Nat} (hm : Mem F w0 ι H nx w) (hb : Below w.heap.size w w') : Step F w0 w w' ι ι H H nx nx := by
  refine step_of (hm.below.trans (hb.mono hm.below.size)) hm (Keeps.of_below _ hb) (Shapes.refl _ _ _) (fun id o h => ⟨(hm.heap id o h).1, ?_⟩) hm.inj
  by_cases hl : o.live = true
  · exact ob_keep (hm.heap id o h).2 rfl (fun b c hι => hb.block b (live_lt hm h hl hι)) (Keeps.of_below _ hb) (Shapes.refl _ _ _)
  · cases o <;> simp [Ob.live] at hl
    trivial

theorem put_getD (a : Act) (d : Nat) (u : Value) (hd : d < a.tmps.size) (t : Nat) : (a.put (some d) u).tmps.getD t undef = if d = t then u else a.tmps.getD t undef := by
  simp only [Act.put, Array.getD_eq_getD_getElem?, Array.getElem?_setIfInBounds]
  by_cases h : d = t
  · subst h; simp [hd]
  · simp [h]
theorem rel_set (h : Rel F w0 n ι s a w) (hs : Step F w0 w w' ι ι' s.heap s'.heap s.nx s'.nx) (hdr : w.drawn ≤ w'.drawn) (he : s'.env = s.env) {d : Option Nat} (hd : dstOk n d = true) {v : SV} {u : Value} (hr : Rep w' (owned F ι' s'.heap) ι' s'.heap s'.nx v u) :
    Rel F w0 n ι' (s'.set d v) (a.put d u) w' := by
  cases d with
  | none => exact ⟨h.size, h.defers, Nat.le_trans h.drawn hdr, hs.mem, fun t v ht => hs.rep _ _ (h.env t v (by rw [← he]; exact ht))⟩
  | some d =>
    have hd' : d < a.tmps.size := by
      rw [h.size]
      simpa [dstOk, Nat.blt_eq] using hd
    refine ⟨by simp [Act.put, h.size], h.defers, Nat.le_trans h.drawn hdr, hs.mem, fun t v' ht => ?_⟩
    rw [put_getD a d u hd']
    simp only [St.set, look_cons] at ht
    split at ht
    · rename_i e
      cases ht
      rw [if_pos e]; exact hr
    · rename_i e
      rw [if_neg e]
      exact hs.rep _ _ (h.env t v' (by rw [← he]; exact ht))

theorem opV_ok {q : Opts} {o : Oper} {io : IOp} {args : List Operand} {g : Option (Nat × Bool)} {K : St → Prop} (h : Rel F w0 n ι s a w) (hl : lowOp P q o.dst o.op = some (io, args)) (hd : dstOk n o.dst = true) (hv : opV P ⟨o.dst, io, args, g⟩ s K)
    {KK : Act → World → Prop} {Q : Exit → Act → World → Prop} (hk : ∀ a' w' ι' s', Rel F w0 n ι' s' a' w' → K s' → KK a' w') : o.wp P a w KK Q := by
  unfold opV at hv
  dsimp only at hv
  split at hv
  · exact hv.elim
  · rename_i xs hxs
    have hx := evalL_rep h hxs
    split at hv
    · rename_i he
      refine eop_ok h.mem hl rfl he hx hv KK Q ?_
      rintro u w' hdr ⟨ι', v, s', e1, e2, e3, e4⟩
      rw [setK_eq] at e4
      exact hk _ _ ι' _ (rel_set h e2 hdr e1 hd e3) e4
    · rename_i he
      obtain ⟨v, hp, hkv⟩ := pop_yields hv
      refine pop_ok h.mem hl rfl he hx hp KK Q ?_
      rintro u w' hdr ⟨e1, e2⟩
      rw [setK_eq] at hkv
      exact hk _ _ ι _ (rel_set (s' := s) h (step_below h.mem e1) hdr rfl hd e2) hkv

theorem rel_und (h : Rel F w0 n ι s a w) {d : Option Nat} (hd : dstOk n d = true) : Rel F w0 n ι (s.set d .und) (a.put d undef) w :=
  rel_set (s' := s) h (step_below h.mem (Below.refl _ _)) (Nat.le_refl _) rfl hd .und

theorem lowIO_spec {q : Opts} {ops : Array Oper} {o : Oper} {x : Opn} (h : lowIO P q ops o = some x) : ∃ io args, lowOp P q o.dst o.op = some (io, args) ∧ x.dst = o.dst ∧ x.op = io ∧ x.args = args ∧
    ((o.guard = none ∧ x.guard = none) ∨ ∃ j b oj t, o.guard = some (j, b) ∧ ops[j]? = some oj ∧ oj.dst = some t ∧ x.guard = some (t, b)) := by
  unfold lowIO at h
  split at h
  · rename_i io args hlo
    refine ⟨io, args, hlo, ?_⟩
    split at h
    · rename_i hg
      cases h; exact ⟨rfl, rfl, rfl, .inl ⟨hg, rfl⟩⟩
    · rename_i j b hg
      split at h
      · rename_i oj hj
        split at h
        · rename_i t ht
          cases h; exact ⟨rfl, rfl, rfl, .inr ⟨j, b, oj, t, hg, hj, ht, rfl⟩⟩
        · cases h
      · cases h
  · cases h

/-- What a guard says. -/
theorem wanted_of (h : Rel F w0 n ι s a w) {ops : Array Oper} {o : Oper} {j t : Nat} {b : Bool} {oj : Oper} (hg : o.guard = some (j, b)) (hj : ops[j]? = some oj) (ht : oj.dst = some t) :
    (∀ v, look s.env t = some (.c (.bool v)) → t < n → Region.wanted o (yielded ops a.tmps) = (v == b)) ∧ (look s.env t = some .und → Region.wanted o (yielded ops a.tmps) = false) := by
  have hy : ∀ u, a.tmps.getD t undef = u → yielded ops a.tmps j = (match (if t < n then some u else none) with | some (.bool b) => some b | _ => none) := by
    intro u hu
    unfold yielded
    rw [hj]
    simp only [Option.bind_some, ht]
    by_cases hlt : t < n
    · have : a.tmps[t]? = some u := by
        rw [Array.getD_eq_getD_getElem?] at hu
        have : t < a.tmps.size := by rw [h.size]; exact hlt
        simp [this] at hu ⊢
        exact hu
      rw [this, if_pos hlt]
      cases u <;> rfl
    · have : a.tmps[t]? = none := Array.getElem?_eq_none (by rw [h.size]; omega)
      rw [this, if_neg hlt]
  refine ⟨fun v hv hlt => ?_, fun hv => ?_⟩
  · have hr := rep_bool (h.env t _ hv)
    simp only [Region.wanted, hg, hy _ hr, if_pos hlt]
    cases v <;> cases b <;> rfl
  · have hr := h.env t _ hv
    have hu : a.tmps.getD t undef = undef := by generalize a.tmps.getD t undef = z at hr; cases hr; rfl
    simp only [Region.wanted, hg, hy _ hu]
    by_cases hlt : t < n <;> simp [hlt, undef]

/-- A region in the order of the text. -/
theorem opsV_ok {q : Opts} {ops : Array Oper} {Q : Exit → Act → World → Prop} {K : St → Prop} (hdst : ∀ o ∈ ops.toList, dstOk n o.dst = true) (hQ : ∀ ι s a w, Rel F w0 n ι s a w → K s → Q .normal a w) :
    ∀ (l : List Oper) (ios : List Opn), (∀ o ∈ l, o ∈ ops.toList) → lowIOs P q ops l = some ios → ∀ (ι : Iota) (s : St) (a : Act) (w : World), Rel F w0 n ι s a w → opsV P ios K s → wpList P ops Q l a w
  | [], ios, _, hl, ι, s, a, w, h, hv => by
    simp [lowIOs] at hl
    subst hl
    exact hQ ι s a w h hv
  | o :: l, ios, hsub, hl, ι, s, a, w, h, hv => by
    simp only [lowIOs] at hl
    split at hl
    · rename_i x r h1 h2
      cases hl
      obtain ⟨io, args, hlo, e1, e2, e3, hg⟩ := lowIO_spec h1
      have hd := hdst o (hsub o (by simp))
      have hrest := fun ι s a w hr hk => opsV_ok hdst hQ l r (fun o ho => hsub o (by simp [ho])) h2 ι s a w hr hk
      obtain ⟨xd, xo, xa, xg⟩ := x
      dsimp only at e1 e2 e3 hg
      subst e1; subst e2; subst e3
      have run : opV P ⟨o.dst, xo, xa, xg⟩ s (opsV P r K) → wpList P ops Q (o :: l) a w ∨ True := fun _ => .inr trivial
      unfold wpList
      rcases hg with ⟨hg, rfl⟩ | ⟨j, b, oj, t, hg, hj, ht, rfl⟩
      · rw [if_pos (by simp [Region.wanted, hg])]
        exact .inl (opV_ok h hlo hd hv fun a' w' ι' s' hr hk => hrest ι' s' a' w' hr hk)
      · obtain ⟨g1, g2⟩ := wanted_of h hg hj ht
        have htn : t < n := by
          have := hdst oj (by rw [Array.mem_toList_iff]; exact Array.mem_of_getElem? hj)
          rw [ht] at this
          simpa [dstOk, Nat.blt_eq] using this
        simp only [opsV] at hv
        split at hv
        · rename_i hlk
          have hw := g1 _ hlk htn
          cases b <;> dsimp only at hv
          · rw [if_neg (by rw [hw]; simp)]
            rw [setK_eq] at hv
            exact hrest ι _ _ w (rel_und h hd) hv
          · rw [if_pos (by rw [hw]; simp)]
            exact .inl (opV_ok h hlo hd hv fun a' w' ι' s' hr hk => hrest ι' s' a' w' hr hk)
        · rename_i hlk
          have hw := g1 _ hlk htn
          cases b <;> dsimp only at hv
          · rw [if_pos (by rw [hw]; simp)]
            exact .inl (opV_ok h hlo hd hv fun a' w' ι' s' hr hk => hrest ι' s' a' w' hr hk)
          · rw [if_neg (by rw [hw]; simp)]
            rw [setK_eq] at hv
            exact hrest ι _ _ w (rel_und h hd) hv
        · rename_i hlk
          rw [if_neg (by rw [g2 hlk]; simp)]
          rw [setK_eq] at hv
          exact hrest ι _ _ w (rel_und h hd) hv
        · exact hv.elim
    · cases hl
end
end Go.Proofs.Ytfghmpfiemmbgaa
