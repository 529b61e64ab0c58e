/- The abstract walk is sound: what the call owns, changed. No program in sight. -/
import Derived.Test.YtfghmpfiemmbgaaB1
namespace Go.Proofs.Ytfghmpfiemmbgaa
open Go.RowKit

def upd (ι : Iota) (n : Nat) (p : Option (Nat × Nat)) : Iota := fun id => if id = n then p else ι id
theorem upd_self (ι : Iota) (n : Nat) (p : Option (Nat × Nat)) : upd ι n p n = p := by simp [upd]
theorem upd_ne (ι : Iota) {n id : Nat} (p : Option (Nat × Nat)) (h : id ≠ n) : upd ι n p id = ι id := by simp [upd, h]

section
variable {P : Program} {F : Nat → Prop} {w0 w w' : World} {ι ι' : Iota} {H H' : List (Nat × Ob)} {nx nx' : Nat}

theorem owns_kept {base e k n : Nat} {p : Option (Nat × Nat)} {xs : List Value} (h : w.ownsRow base e k (ownVal p n) n xs) (hb : ∀ b c, p = some (b, c) → w'.heap[b]? = w.heap[b]?) : w'.ownsRow base e k (ownVal p n) n xs := by
  refine ⟨h.1, ?_⟩
  rcases h.2 with h | ⟨g, cap, cur, hv, h1, h2, h3⟩
  · exact .inl h
  · refine .inr ⟨g, cap, cur, hv, h1, ?_, h3⟩
    cases p with
    | none => simp [ownVal] at hv
    | some q =>
      obtain ⟨b, c⟩ := q
      simp only [ownVal, Value.slice.injEq, Option.some.injEq, Addr.mk.injEq, and_true, true_and] at hv
      obtain ⟨rfl, _⟩ := hv
      rw [hb b c rfl]; exact h2

theorem ob_keep {base id : Nat} {o : Ob} {own own' : Nat → Prop} (ho : ObRep w own ι H nx base id o) (hι : ι' id = ι id) (hblk : ∀ b c, ι id = some (b, c) → w'.heap[b]? = w.heap[b]?) (k : Keeps w w' own own') (sh : Shapes ι ι' H H' nx nx') :
    ObRep w' own' ι' H' nx' base id o := by
  cases o with
  | box cs =>
    obtain ⟨b, c, cur, e, h1, h2, h3, h4, h5⟩ := ho
    exact ⟨b, c, cur, e, by rw [hι]; exact h1, h2, by rw [hblk b c h1]; exact h3, h4, fun j s u hs hu => ⟨(h5 j s u hs hu).1, (h5 j s u hs hu).2.keep k sh⟩⟩
  | row e kk es =>
    obtain ⟨xs, h1, h2, h3⟩ := ho
    refine ⟨xs, by rw [hι]; exact owns_kept h1 hblk, h2, fun i c v hc hv => (h3 i c v hc hv).keep k⟩
  | map kn ag kv =>
    obtain ⟨b, c, arr, ck, h1, h2, h3, h4⟩ := ho
    exact ⟨b, c, arr, ck, by rw [hι]; exact h1, h2, by rw [hblk b c h1]; exact h3, h4⟩
  | dead => trivial

/-- What a step that changes the owned memory leaves. -/
structure Step (F : Nat → Prop) (w0 w w' : World) (ι ι' : Iota) (H H' : List (Nat × Ob)) (nx nx' : Nat) : Prop where
  mem : Mem F w0 ι' H' nx' w'
  rep : ∀ s u, Rep w (owned F ι H) ι H nx s u → Rep w' (owned F ι' H') ι' H' nx' s u
  repc : ∀ c u, RepC w (owned F ι H) c u → RepC w' (owned F ι' H') c u

theorem step_of (hb : Below w0.heap.size w0 w') (hm : Mem F w0 ι H nx w) (k : Keeps w w' (owned F ι H) (owned F ι' H')) (sh : Shapes ι ι' H H' nx nx')
    (ho : ∀ id o, look H' id = some o → id < nx' ∧ ObRep w' (owned F ι' H') ι' H' nx' w0.heap.size id o)
    (inj : ∀ id id' o o' b c c', look H' id = some o → o.live = true → look H' id' = some o' → o'.live = true → ι' id = some (b, c) → ι' id' = some (b, c') → id = id') : Step F w0 w w' ι ι' H H' nx nx' :=
  ⟨⟨hb, hm.fb, ho, inj⟩, fun _ _ h => h.keep k sh, fun _ _ h => h.keep k⟩

theorem live_lt (hm : Mem F w0 ι H nx w) {id : Nat} {o : Ob} {b c : Nat} (h : look H id = some o) (hl : o.live = true) (hι : ι id = some (b, c)) : b < w.heap.size := owned_lt hm (.inr ⟨id, o, c, h, hl, hι⟩)

/-- A new object. -/
theorem step_new (hm : Mem F w0 ι H nx w) (hb : Below w.heap.size w w') (p : Option (Nat × Nat)) (o : Ob) (hp : ∀ b c, p = some (b, c) → w.heap.size ≤ b)
    (ho : Keeps w w' (owned F ι H) (owned F (upd ι nx p) ((nx, o) :: H)) → Shapes ι (upd ι nx p) H ((nx, o) :: H) nx (nx + 1) → ObRep w' (owned F (upd ι nx p) ((nx, o) :: H)) (upd ι nx p) ((nx, o) :: H) (nx + 1) w0.heap.size nx o) :
    Step F w0 w w' ι (upd ι nx p) H ((nx, o) :: H) nx (nx + 1) := by
  have hlook : ∀ id, id ≠ nx → look ((nx, o) :: H) id = look H id := fun id h => by rw [look_cons, if_neg (Ne.symm h)]
  have hself : look ((nx, o) :: H) nx = some o := by rw [look_cons, if_pos rfl]
  have k : Keeps w w' (owned F ι H) (owned F (upd ι nx p) ((nx, o) :: H)) := by
    refine ⟨hb.size, fun b o u hlt _ hc => (hb.cell (p := ⟨b, o, none⟩) hlt).trans hc, fun b hlt h => ?_⟩
    rcases h with h | ⟨id, o', c, h1, h2, h3⟩
    · exact .inl h
    · by_cases e : id = nx
      · subst e
        rw [upd_self] at h3
        have := hp b c h3
        omega
      · rw [hlook id e] at h1
        rw [upd_ne ι p e] at h3
        exact .inr ⟨id, o', c, h1, h2, h3⟩
  have sh : Shapes ι (upd ι nx p) H ((nx, o) :: H) nx (nx + 1) := by
    refine ⟨by omega, fun id cs h hh => ?_, fun id e kk es h hh => ?_, fun id kn ag kv h hh => ?_⟩
    · rw [hlook id (by omega)] at hh; exact ⟨upd_ne ι p (by omega), cs, hh⟩
    · rw [hlook id (by omega)] at hh; exact ⟨upd_ne ι p (by omega), e, kk, es, hh, rfl⟩
    · rw [hlook id (by omega)] at hh; exact ⟨upd_ne ι p (by omega), kn, ag, kv, hh⟩
  refine step_of (hm.below.trans (hb.mono hm.below.size)) hm k sh (fun id o' h => ?_) (fun id id' o1 o2 b c c' h1 l1 h2 l2 i1 i2 => ?_)
  · by_cases e : id = nx
    · subst e
      rw [hself] at h
      cases h
      exact ⟨by omega, ho k sh⟩
    · rw [hlook id e] at h
      obtain ⟨q1, q2⟩ := hm.heap id o' h
      refine ⟨by omega, ?_⟩
      by_cases hl : o'.live = true
      · exact ob_keep q2 (upd_ne ι p e) (fun b c hι => hb.block b (live_lt hm h hl hι)) k sh
      · cases o' <;> simp [Ob.live] at hl
        trivial
  · by_cases e : id = nx
    · by_cases e' : id' = nx
      · omega
      · rw [e, upd_self] at i1
        rw [upd_ne ι p e'] at i2
        rw [hlook id' e'] at h2
        have := hp b c i1
        have := live_lt hm h2 l2 i2
        omega
    · rw [upd_ne ι p e] at i1
      rw [hlook id e] at h1
      by_cases e' : id' = nx
      · rw [e', upd_self] at i2
        have := hp b c' i2
        have := live_lt hm h1 l1 i1
        omega
      · rw [upd_ne ι p e'] at i2
        rw [hlook id' e'] at h2
        exact hm.inj id id' o1 o2 b c c' h1 l1 h2 l2 i1 i2

/-- An object is written; its shape stays. -/
theorem step_put (hm : Mem F w0 ι H nx w) {id b c : Nat} {o o' : Ob} (hh : look H id = some o) (hl : o.live = true) (hι : ι id = some (b, c)) (hbase : w0.heap.size ≤ b) (hg : w.grownBy w' (some b))
    (hshape : (∀ cs, o' = .box cs → ∃ cs', o = .box cs') ∧ (∀ e k es, o' = .row e k es → ∃ e' k' es', o = .row e' k' es' ∧ es'.length = es.length) ∧ (∀ kn ag kv, o' = .map kn ag kv → ∃ kn' ag' kv', o = .map kn' ag' kv'))
    (ho : Keeps w w' (owned F ι H) (owned F ι ((id, o') :: H)) → Shapes ι ι H ((id, o') :: H) nx nx → ObRep w' (owned F ι ((id, o') :: H)) ι ((id, o') :: H) nx w0.heap.size id o') :
    Step F w0 w w' ι ι H ((id, o') :: H) nx nx := by
  have hlook : ∀ i, i ≠ id → look ((id, o') :: H) i = look H i := fun i h => by rw [look_cons, if_neg (Ne.symm h)]
  have hself : look ((id, o') :: H) id = some o' := by rw [look_cons, if_pos rfl]
  have k : Keeps w w' (owned F ι H) (owned F ι ((id, o') :: H)) := by
    refine ⟨hg.size, fun b' o u hlt hno hc => (World.cell?_of_block (a := ⟨b', o, none⟩) (hg.block b' hlt (fun e => hno (.inr ⟨id, _, c, hh, hl, by cases e; exact hι⟩)))).trans hc, fun b' hlt h => ?_⟩
    rcases h with h | ⟨i, o1, c1, h1, h2, h3⟩
    · exact .inl h
    · by_cases e : i = id
      · subst e; exact .inr ⟨i, o, c1, hh, hl, h3⟩
      · rw [hlook i e] at h1; exact .inr ⟨i, o1, c1, h1, h2, h3⟩
  have sh : Shapes ι ι H ((id, o') :: H) nx nx := by
    refine ⟨Nat.le_refl _, fun i cs h h1 => ⟨rfl, ?_⟩, fun i e kk es h h1 => ⟨rfl, ?_⟩, fun i kn ag kv h h1 => ⟨rfl, ?_⟩⟩
    · by_cases e : i = id
      · subst e; rw [hself] at h1; cases h1
        obtain ⟨cs', e'⟩ := hshape.1 cs rfl
        exact ⟨cs', by rw [hh, e']⟩
      · rw [hlook i e] at h1; exact ⟨cs, h1⟩
    · by_cases e0 : i = id
      · subst e0; rw [hself] at h1; cases h1
        obtain ⟨e', k', es', e1, e2⟩ := hshape.2.1 _ _ _ rfl
        exact ⟨e', k', es', by rw [hh, e1], e2⟩
      · rw [hlook i e0] at h1; exact ⟨e, kk, es, h1, rfl⟩
    · by_cases e : i = id
      · subst e; rw [hself] at h1; cases h1
        obtain ⟨kn', ag', kv', e'⟩ := hshape.2.2 _ _ _ rfl
        exact ⟨kn', ag', kv', by rw [hh, e']⟩
      · rw [hlook i e] at h1; exact ⟨kn, ag, kv, h1⟩
  refine step_of (hm.below.grown hg hm.below.size (fun k e => by cases e; exact hbase)) hm k sh (fun i o1 h => ?_) (fun i i' o1 o2 b' c1 c2 h1 l1 h2 l2 i1 i2 => ?_)
  · by_cases e : i = id
    · subst e
      rw [hself] at h
      cases h
      exact ⟨(hm.heap _ _ hh).1, ho k sh⟩
    · rw [hlook i e] at h
      obtain ⟨q1, q2⟩ := hm.heap i o1 h
      refine ⟨q1, ?_⟩
      by_cases hl1 : o1.live = true
      · refine ob_keep q2 rfl (fun b' c' hι' => hg.block b' (live_lt hm h hl1 hι') (fun e' => ?_)) k sh
        cases e'
        exact e (hm.inj i id o1 o b c' c h hl1 hh hl hι' hι)
      · cases o1 <;> simp [Ob.live] at hl1
        trivial
  · have back : ∀ j oj, look ((id, o') :: H) j = some oj → oj.live = true → ∃ oj', look H j = some oj' ∧ oj'.live = true := by
      intro j oj hj hlj
      by_cases e : j = id
      · subst e; exact ⟨o, hh, hl⟩
      · rw [hlook j e] at hj; exact ⟨oj, hj, hlj⟩
    obtain ⟨p1, q1, q2⟩ := back i o1 h1 l1
    obtain ⟨p2, q3, q4⟩ := back i' o2 h2 l2
    exact hm.inj i i' p1 p2 b' c1 c2 q1 q2 q3 q4 i1 i2

/-- Objects given up. -/
theorem step_dead (hm : Mem F w0 ι H nx w) {H' : List (Nat × Ob)} (hd : ∀ id o, look H' id = some o → o.live = true → look H id = some o) (hnx : ∀ id o, look H' id = some o → id < nx) : Step F w0 w w ι ι H H' nx nx := by
  have k : Keeps w w (owned F ι H) (owned F ι H') := ⟨Nat.le_refl _, fun _ _ _ _ _ h => h, fun b _ h => by
    rcases h with h | ⟨id, o, c, h1, h2, h3⟩
    · exact .inl h
    · exact .inr ⟨id, o, c, hd id o h1 h2, h2, h3⟩⟩
  have sh : Shapes ι ι H H' nx nx := ⟨Nat.le_refl _, fun id cs _ h => ⟨rfl, cs, hd id _ h rfl⟩, fun id e kk es _ h => ⟨rfl, e, kk, es, hd id _ h rfl, rfl⟩, fun id kn ag kv _ h => ⟨rfl, kn, ag, kv, hd id _ h rfl⟩⟩
  refine step_of hm.below hm k sh (fun id o h => ⟨hnx id o h, ?_⟩) (fun id id' o o' b c c' h1 l1 h2 l2 i1 i2 => hm.inj id id' o o' b c c' (hd id o h1 l1) l1 (hd id' o' h2 l2) l2 i1 i2)
  by_cases hl : o.live = true
  · exact ob_keep (hm.heap id o (hd id o h hl)).2 rfl (fun _ _ _ => rfl) k sh
  · cases o <;> simp [Ob.live] at hl
    trivial

theorem Step.trans {w1 : World} {ι1 : Iota} {H1 : List (Nat × Ob)} {nx1 : Nat} (h : Step F w0 w w1 ι ι1 H H1 nx nx1) (h' : Step F w0 w1 w' ι1 ι' H1 H' nx1 nx') : Step F w0 w w' ι ι' H H' nx nx' :=
  ⟨h'.mem, fun s u hr => h'.rep s u (h.rep s u hr), fun c u hr => h'.repc c u (h.repc c u hr)⟩
end
end Go.Proofs.Ytfghmpfiemmbgaa
