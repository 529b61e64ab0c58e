/- The abstract walk is sound: the operations that change what the call owns, one theorem. No program in sight. -/
import Derived.Test.YtfghmpfiemmbgaaBM
namespace Go.Proofs.Ytfghmpfiemmbgaa
open Go.RowKit

/-- What an operation leaves. -/
def Left (F : Nat → Prop) (w0 w : World) (ι : Iota) (s : St) (K : SV → St → Prop) (u : Value) (w' : World) : Prop :=
  ∃ ι' v s', s'.env = s.env ∧ Step F w0 w w' ι ι' s.heap s'.heap s.nx s'.nx ∧ Rep w' (owned F ι' s'.heap) ι' s'.heap s'.nx v u ∧ K v s'

section
variable {P : Program} {F : Nat → Prop} {w0 w w' : World} {ι ι' : Iota} {s : St}

theorem look_killI : ∀ (l : List Nat) (H : List (Nat × Ob)) (i : Nat), look (killI l H) i = if i ∈ l then some .dead else look H i
  | [], H, i => by simp [killI]
  | x :: r, H, i => by
    rw [killI, look_killI r]
    by_cases h : i ∈ r
    · simp [h]
    · rw [if_neg h, look_cons]
      by_cases e : x = i
      · subst e; simp
      · rw [if_neg e, if_neg (by simp [h, Ne.symm e])]
theorem look_idx : ∀ (obs : List Ob) (k i : Nat), look (idxFrom k obs) i = if k ≤ i then obs[i - k]? else none
  | [], k, i => by simp [idxFrom, look]
  | o :: r, k, i => by
    rw [idxFrom, look_cons, look_idx r (k + 1) i]
    by_cases e : k = i
    · subst e; simp
    · rw [if_neg e]
      by_cases h : k + 1 ≤ i
      · rw [if_pos h, if_pos (by omega), show i - k = (i - (k + 1)) + 1 by omega]; simp
      · rw [if_neg h, if_neg (by omega)]
theorem news_spec : ∀ (obs : List Ob) (s : St), (s.news obs).env = s.env ∧ (s.news obs).nx = s.nx + obs.length ∧ ∀ i, look (s.news obs).heap i = if s.nx ≤ i ∧ i < s.nx + obs.length then obs[i - s.nx]? else look s.heap i
  | [], s => ⟨rfl, rfl, fun i => by rw [if_neg (by intro hh; simp only [List.length_nil] at hh; omega)]; rfl⟩
  | o :: r, s => by
    obtain ⟨h1, h2, h3⟩ := news_spec r (s.new o)
    refine ⟨h1, (h2.trans (show s.nx + 1 + r.length = s.nx + (r.length + 1) by omega)), fun i => ?_⟩
    refine (h3 i).trans ?_
    show (if s.nx + 1 ≤ i ∧ i < s.nx + 1 + r.length then r[i - (s.nx + 1)]? else look ((s.nx, o) :: s.heap) i) = _
    simp only [List.length_cons]
    by_cases e : s.nx = i
    · subst e
      rw [if_neg (by omega), look_cons, if_pos rfl, if_pos (by omega)]; simp
    · by_cases h : s.nx + 1 ≤ i ∧ i < s.nx + 1 + r.length
      · rw [if_pos h, if_pos (by omega), show i - s.nx = (i - (s.nx + 1)) + 1 by omega]; simp
      · rw [if_neg h, look_cons, if_neg e, if_neg (by omega)]
theorem rowsO_spec : ∀ {obs : List Ob}, rowsO obs → ∀ o ∈ obs, ∃ e k es, o = .row e k es
  | [], _, o, h => by simp at h
  | x :: r, h, o, ho => by
    cases x with
    | row e k es =>
      rcases List.mem_cons.1 ho with rfl | ho
      · exact ⟨e, k, es, rfl⟩
      · exact rowsO_spec (obs := r) h o ho
    | _ => exact h.elim
theorem shiftL_map (n : Nat) : ∀ l : List SV, shift.shiftL n l = l.map (shift n)
  | [] => rfl
  | s :: r => by simp [shift.shiftL, shiftL_map n r]
theorem shift_cell (n : Nat) {s : SV} (h : s.cell = true) : (shift n s).cell = true := by cases s <;> first | (cases h; done) | rfl | (simp [shift, SV.cell])
theorem shift_rep {own own' : Nat → Prop} {ι1 : Iota} {H1 H' : List (Nat × Ob)} {m n nx' : Nat} (hn : n + m ≤ nx') (hown : ∀ b, own' b → own b) (hlook : ∀ i, i < m → look H' (n + i) = look H1 i) (hι : ∀ i, i < m → ι' (n + i) = ι1 i) {r : SV} {u : Value} (h : Rep w' own ι1 H1 m r u) :
    Rep w' own' ι' H' nx' (shift n r) u := by
  have kp : Keeps w' w' own own' := ⟨Nat.le_refl _, fun _ _ _ _ _ h => h, fun b _ h => hown b h⟩
  have lmap : ∀ (cs : List SV) (i : Nat) (x : SV), (cs.map (shift n))[i]? = some x → ∃ y, cs[i]? = some y ∧ x = shift n y := by
    intro cs i x hx
    rw [List.getElem?_map] at hx
    cases hc : cs[i]? with
    | none => rw [hc] at hx; cases hx
    | some y => rw [hc] at hx; cases hx; exact ⟨y, rfl, rfl⟩
  induction h with
  | c cv v h => exact .c cv v (h.keep kp)
  | agg cs vs hl hc h ih =>
    simp only [shift, shiftL_map]
    refine .agg _ vs (by simpa using hl) (fun s hs => ?_) fun i s v hs hv => ?_
    · obtain ⟨y, hy, rfl⟩ := List.mem_map.1 hs
      exact shift_cell n (hc y hy)
    · obtain ⟨y, hy, rfl⟩ := lmap cs i s hs
      exact ih i y v hy hv
  | bp id j v hx h1 h =>
    refine .bp _ j v (by omega) h1 fun cs hh => ?_
    rw [hlook id hx] at hh
    rw [hι id hx]; exact h cs hh
  | ep id k i j v hx h1 h =>
    refine .ep _ k i j v (by omega) h1 fun e k' es hh => ?_
    rw [hlook id hx] at hh
    rw [hι id hx]; exact h e k' es hh
  | osl id v hx h1 h =>
    refine .osl _ v (by omega) h1 fun e k' es hh => ?_
    rw [hlook id hx] at hh
    rw [hι id hx]; exact h e k' es hh
  | rp cs b off xs hl hb ho hx h => exact .rp cs b off xs hl hb (fun h => ho (hown b h)) hx fun i c v hc hv => (h i c v hc hv).keep kp
  | mp id v hx h1 h =>
    refine .mp _ v (by omega) h1 fun kn ag kv hh => ?_
    rw [hlook id hx] at hh
    rw [hι id hx]; exact h kn ag kv hh
  | fn f caps vs hl h ih =>
    simp only [shift, shiftL_map]
    refine .fn f _ vs (by simpa using hl) fun i s v hs hv => ?_
    obtain ⟨y, hy, rfl⟩ := lmap caps i s hs
    exact ih i y v hy hv
  | tup ss vs hl h ih =>
    simp only [shift, shiftL_map]
    refine .tup _ vs (by simpa using hl) fun i s v hs hv => ?_
    obtain ⟨y, hy, rfl⟩ := lmap ss i s hs
    exact ih i y v hy hv
  | none_ v => exact .none_ v
  | und => exact .und
theorem ownArg1_ok {F' : Nat → Prop} {H : List (Nat × Ob)} {s : SV} (h : ownArg1 s = true) (hk : ∀ id ∈ ids1 s, ∀ o b c, look H id = some o → o.live = true → ι id = some (b, c) → ¬ F' b) : refOk F' ι H s := by
  unfold ownArg1 at h
  split at h <;> first | trivial | (cases h; done) | skip
  exact hk _ (by simp [ids1])
theorem ownArgs_ok {F' : Nat → Prop} {H : List (Nat × Ob)} : ∀ {ss : List SV}, ownArgs ss = true → (∀ id ∈ ss.flatMap idsV, ∀ o b c, look H id = some o → o.live = true → ι id = some (b, c) → ¬ F' b) → ∀ s ∈ ss, refOkV F' ι H s
  | [], _, _ => by simp
  | x :: r, h, hk => by
    simp only [ownArgs, Bool.and_eq_true] at h
    obtain ⟨h1, h2⟩ := h
    intro s hs
    rcases List.mem_cons.1 hs with rfl | hs
    · have hk' : ∀ id ∈ idsV s, ∀ o b c, look H id = some o → o.live = true → ι id = some (b, c) → ¬ F' b := fun id hi => hk id (by simp [hi])
      unfold refOkV
      split
      · intro s hs; exact ownArg1_ok (List.all_eq_true.1 h1 s hs) fun id hi => hk' id (by simp only [idsV, List.mem_flatMap]; exact ⟨s, hs, hi⟩)
      · intro s hs; exact ownArg1_ok (List.all_eq_true.1 h1 s hs) fun id hi => hk' id (by simp only [idsV, List.mem_flatMap]; exact ⟨s, hs, hi⟩)
      · rename_i n1 n2
        have e : idsV s = ids1 s := by
          unfold idsV
          split
          · exact absurd rfl (n1 _)
          · exact absurd rfl (n2 _ _)
          · rfl
        split at h1
        · exact absurd rfl (n1 _)
        · exact absurd rfl (n2 _ _)
        · exact ownArg1_ok h1 fun id hi => hk' id (by rw [e]; exact hi)
    · exact ownArgs_ok h2 (fun id hi => hk id (by rw [List.flatMap_cons]; exact List.mem_append_right _ hi)) s hs

theorem ids1_lt {own : Nat → Prop} {H : List (Nat × Ob)} {nx : Nat} {x : SV} {u : Value} {id : Nat} (h : Rep w own ι H nx x u) (hi : id ∈ ids1 x) : id < nx := by
  cases h <;> simp [ids1] at hi <;> (subst hi; assumption)
theorem idsV_lt {own : Nat → Prop} {H : List (Nat × Ob)} {nx : Nat} {x : SV} {u : Value} {id : Nat} (h : Rep w own ι H nx x u) (hi : id ∈ idsV x) : id < nx := by
  unfold idsV at hi
  split at hi
  · obtain ⟨y, hy, hid⟩ := List.mem_flatMap.1 hi
    cases h with
    | agg cs vs hl hc h =>
      obtain ⟨i, hi'⟩ := List.getElem?_of_mem hy
      have hlt : i < vs.length := by rw [← hl]; exact (List.getElem?_eq_some_iff.1 hi').1
      exact ids1_lt (h i y _ hi' (List.getElem?_eq_getElem hlt)) hid
  · obtain ⟨y, hy, hid⟩ := List.mem_flatMap.1 hi
    cases h with
    | fn f cs vs hl h =>
      obtain ⟨i, hi'⟩ := List.getElem?_of_mem hy
      have hlt : i < vs.length := by rw [← hl]; exact (List.getElem?_eq_some_iff.1 hi').1
      exact ids1_lt (h i y _ hi' (List.getElem?_eq_getElem hlt)) hid
  · exact ids1_lt h hi
theorem callO_ok {f : Nat} {xs : List SV} {us : List Value} {K : SV → St → Prop} (hm : Mem F w0 ι s.heap s.nx w) (hx : RepList w (owned F ι s.heap) ι s.heap s.nx xs us)
    (hp : callO P f s.heap xs fun r obs => norm (shift s.nx r) fun r' => K r' ({ s with heap := kills xs s.heap }.news obs)) :
    Calls P f us.toArray w fun e w' => ∃ u, e = .returned u ∧ w.drawn ≤ w'.drawn ∧ Left F w0 w ι s K u w' := by
  obtain ⟨ha, S, hS, x, hpre, hl, hro, hn⟩ := hp
  have hkl : ∀ i o, look (kills xs s.heap) i = some o → o.live = true → look s.heap i = some o ∧ i ∉ xs.flatMap idsV := by
    intro i o h l
    unfold kills at h
    rw [look_killI] at h
    split at h
    · cases h; cases l
    · exact ⟨h, by assumption⟩
  have hF : ∀ b, owned F ι (kills xs s.heap) b → owned F ι s.heap b := fun b h => h.imp (fun h => h) fun ⟨i, o, c, q1, q2, q3⟩ => ⟨i, o, c, (hkl i o q1 q2).1, q2, q3⟩
  have hbase : ∀ id o b c, look s.heap id = some o → o.live = true → ι id = some (b, c) → w0.heap.size ≤ b := by
    intro id o b c h1 h2 h3
    have := (hm.heap id o h1).2
    cases o with
    | box cs => obtain ⟨b', c', _, _, q1, q2, _⟩ := this; rw [h3] at q1; cases q1; exact q2
    | row e k es => obtain ⟨ys, q1, _⟩ := this; rw [h3] at q1; exact (World.ownsRow.lt q1 b rfl).1
    | map kn ag kv => obtain ⟨b', c', _, _, q1, q2, _⟩ := this; rw [h3] at q1; cases q1; exact q2
    | dead => cases h2
  have hargs : RepList w (owned F ι (kills xs s.heap)) (fun _ => none) [] 0 (S.args x) us := by
    refine leVs_rep hl (views_rep hm hF (fun _ _ h _ => h) (.inr (ownArgs_ok ha fun id hid o b c h1 h2 h3 hown => ?_)) hx)
    rcases hown with h | ⟨i, o', c', q1, q2, q3⟩
    · have := hbase id o b c h1 h2 h3
      have := hm.fb b h
      omega
    · obtain ⟨q4, q5⟩ := hkl i o' q1 q2
      have := hm.inj i id o' o b c' c q4 q2 h1 h2 q3 h3
      subst this
      exact q5 hid
  refine (hS x (owned F ι (kills xs s.heap)) w us hpre (fun b h => owned_lt hm (hF b h)) hargs).mono ?_
  rintro e w' ⟨u, ι1, rfl, hb, hdr, hrep, hobs, hinj⟩
  obtain ⟨n1, n2, n3⟩ := news_spec (S.obs x) { s with heap := kills xs s.heap }
  obtain ⟨r', hn1, hn2⟩ := norm_yields hn
  generalize hT : ({ s with heap := kills xs s.heap } : St).news (S.obs x) = T at n1 n2 n3 hn2
  dsimp only at n1 n2 n3
  have hidx : ∀ i, look (idxFrom 0 (S.obs x)) i = (S.obs x)[i]? := fun i => by rw [look_idx]; simp
  have hrow : ∀ i o, look (idxFrom 0 (S.obs x)) i = some o → i < (S.obs x).length ∧ ∃ e k es, o = .row e k es := fun i o h => by
    rw [hidx] at h
    exact ⟨(List.getElem?_eq_some_iff.1 h).1, rowsO_spec hro o (List.mem_of_getElem? h)⟩
  have hge : ∀ i o b c, look (idxFrom 0 (S.obs x)) i = some o → ι1 i = some (b, c) → w.heap.size ≤ b := by
    intro i o b c h1 h2
    obtain ⟨_, e, k, es, rfl⟩ := hrow i o h1
    obtain ⟨ys, q1, _⟩ := hobs i _ h1
    rw [h2] at q1
    exact (World.ownsRow.lt q1 b rfl).1
  have hnew : ∀ i, i < (S.obs x).length → look T.heap (s.nx + i) = look (idxFrom 0 (S.obs x)) i := fun i hi => by
    rw [n3, if_pos (by omega), hidx]; congr 1; omega
  have hold : ∀ i, i < s.nx → look T.heap i = look (kills xs s.heap) i := fun i hi => by rw [n3, if_neg (by omega)]
  have hbig : ∀ i o, look T.heap i = some o → i < s.nx + (S.obs x).length := fun i o h => by
    by_cases h0 : i < s.nx + (S.obs x).length
    · exact h0
    · rw [n3, if_neg (by omega)] at h
      unfold kills at h
      rw [look_killI] at h
      split at h
      · rename_i hmem
        obtain ⟨sx, hsx, hid⟩ := List.mem_flatMap.1 hmem
        obtain ⟨j, hj⟩ := List.getElem?_of_mem hsx
        have hlt : j < us.length := by rw [← hx.1]; exact (List.getElem?_eq_some_iff.1 hj).1
        have := idsV_lt (hx.2 j sx _ hj (List.getElem?_eq_getElem hlt)) hid
        omega
      · have := (hm.heap _ _ h).1; omega
  have hι1 : ∀ i, i < s.nx → (fun id => if id < s.nx then ι id else ι1 (id - s.nx)) i = ι i := fun i hi => by simp [hi]
  have hι2 : ∀ i, (fun id => if id < s.nx then ι id else ι1 (id - s.nx)) (s.nx + i) = ι1 i := fun i => by simp; intro h; omega
  generalize hIota : (fun id => if id < s.nx then ι id else ι1 (id - s.nx)) = ι' at hι1 hι2
  have hown : ∀ b, owned F ι' T.heap b → owned (owned F ι (kills xs s.heap)) ι1 (idxFrom 0 (S.obs x)) b := by
    intro b h
    rcases h with h | ⟨i, o, c, q1, q2, q3⟩
    · exact .inl (.inl h)
    · by_cases hi : i < s.nx
      · rw [hold i hi] at q1
        rw [hι1 i hi] at q3
        exact .inl (.inr ⟨i, o, c, q1, q2, q3⟩)
      · obtain ⟨j, rfl⟩ : ∃ j, i = s.nx + j := ⟨i - s.nx, by omega⟩
        have := hbig _ _ q1
        rw [hnew j (by omega)] at q1
        rw [hι2 j] at q3
        exact .inr ⟨j, o, c, q1, q2, q3⟩
  have kp : Keeps w w' (owned F ι s.heap) (owned F ι' T.heap) := by
    refine ⟨hb.size, fun b o u hlt _ hc => (hb.cell (p := ⟨b, o, none⟩) hlt).trans hc, fun b hlt h => ?_⟩
    rcases hown b h with h | ⟨i, o, c, q1, q2, q3⟩
    · exact hF b h
    · have := hge i o b c q1 q3; omega
  have sh : Shapes ι ι' s.heap T.heap s.nx T.nx := by
    refine ⟨by omega, fun i cs h hh => ?_, fun i e k es h hh => ?_, fun i kn ag kv h hh => ?_⟩
    · rw [hold i h] at hh; exact ⟨hι1 i h, cs, (hkl i _ hh rfl).1⟩
    · rw [hold i h] at hh; exact ⟨hι1 i h, e, k, es, (hkl i _ hh rfl).1, rfl⟩
    · rw [hold i h] at hh; exact ⟨hι1 i h, kn, ag, kv, (hkl i _ hh rfl).1⟩
  have kp1 : Keeps w' w' (owned (owned F ι (kills xs s.heap)) ι1 (idxFrom 0 (S.obs x))) (owned F ι' T.heap) := ⟨Nat.le_refl _, fun _ _ _ _ _ h => h, fun b _ h => hown b h⟩
  refine ⟨u, rfl, hdr, ι', r', T, n1, step_of (hm.below.trans (hb.mono hm.below.size)) hm kp sh (fun i o h => ?_) (fun i i' o o' b c c' h1 l1 h2 l2 i1 i2 => ?_), norm_rep hn1 (shift_rep (by omega) hown (fun i hi => hnew i hi) (fun i _ => hι2 i) hrep), hn2⟩
  · have hlt := hbig i o h
    refine ⟨by omega, ?_⟩
    by_cases hi : i < s.nx
    · rw [hold i hi] at h
      by_cases hlv : o.live = true
      · obtain ⟨q1, q2⟩ := hkl i o h hlv
        exact ob_keep (hm.heap i o q1).2 (hι1 i hi) (fun b c hι => hb.block b (live_lt hm q1 hlv hι)) kp sh
      · cases o <;> simp [Ob.live] at hlv
        trivial
    · obtain ⟨j, rfl⟩ : ∃ j, i = s.nx + j := ⟨i - s.nx, by omega⟩
      rw [hnew j (by omega)] at h
      obtain ⟨_, e, k, es, rfl⟩ := hrow j o h
      obtain ⟨ys, q1, q2, q3⟩ := hobs j _ h
      refine ⟨ys, ?_, q2, fun m c v hc hv => (q3 m c v hc hv).keep kp1⟩
      rw [hι2 j]
      obtain ⟨g1, g2⟩ := q1
      exact ⟨g1, g2.imp (fun h => h) fun ⟨g, cap, cur, p1, p2, p3⟩ => ⟨g, cap, cur, p1, Nat.le_trans hm.below.size p2, p3⟩⟩
  · have old : ∀ i o b c, i < s.nx → look T.heap i = some o → o.live = true → ι' i = some (b, c) → b < w.heap.size := by
      intro i o b c hi h l hι
      rw [hold i hi] at h
      rw [hι1 i hi] at hι
      exact live_lt hm (hkl i o h l).1 l hι
    have nw : ∀ i o b c, ¬ i < s.nx → look T.heap i = some o → ι' i = some (b, c) → w.heap.size ≤ b := by
      intro i o b c hi h hι
      obtain ⟨j, rfl⟩ : ∃ j, i = s.nx + j := ⟨i - s.nx, by omega⟩
      have := hbig _ _ h
      rw [hnew j (by omega)] at h
      rw [hι2 j] at hι
      exact hge j o b c h hι
    by_cases hi : i < s.nx
    · by_cases hi' : i' < s.nx
      · rw [hold i hi] at h1
        rw [hold i' hi'] at h2
        rw [hι1 i hi] at i1
        rw [hι1 i' hi'] at i2
        exact hm.inj i i' o o' b c c' (hkl i o h1 l1).1 l1 (hkl i' o' h2 l2).1 l2 i1 i2
      · have := old i o b c hi h1 l1 i1
        have := nw i' o' b c' hi' h2 i2
        omega
    · by_cases hi' : i' < s.nx
      · have := old i' o' b c' hi' h2 l2 i2
        have := nw i o b c hi h1 i1
        omega
      · have g1 := hbig _ _ h1
        have g2 := hbig _ _ h2
        obtain ⟨j, rfl⟩ : ∃ j, i = s.nx + j := ⟨i - s.nx, by omega⟩
        obtain ⟨j', rfl⟩ : ∃ j', i' = s.nx + j' := ⟨i' - s.nx, by omega⟩
        rw [hnew j (by omega)] at h1
        rw [hnew j' (by omega)] at h2
        rw [hι2 j] at i1
        rw [hι2 j'] at i2
        rw [hinj j j' o o' b c c' h1 l1 h2 l2 i1 i2]
theorem callM_ok {f : Nat} {id e k : Nat} {es : List (List CV)} {r : List SV} {u : Value} {us : List Value} {K : SV → St → Prop} (hm : Mem F w0 ι s.heap s.nx w) (hu : Rep w (owned F ι s.heap) ι s.heap s.nx (.osl id) u) (hus : RepList w (owned F ι s.heap) ι s.heap s.nx r us)
    (hh : look s.heap id = some (.row e k es))
    (hp : ∃ M : MSpec, HoldsM P f M ∧ ∃ x : M.X, M.pre x ∧ (M.e = e ∧ M.k = k) ∧ M.rows x = es ∧ leVs (views ((id, .dead) :: s.heap) r) (M.args x) ∧ ∀ ys, M.post x ys → K (.tup []) (s.put id (.row e k ys))) :
    Calls P f (u :: us).toArray w fun ed w' => ∃ v, ed = .returned v ∧ w.drawn ≤ w'.drawn ∧ Left F w0 w ι s K v w' := by
  obtain ⟨M, hM, x, hpre, ⟨rfl, rfl⟩, rfl, hl, hk⟩ := hp
  obtain ⟨hid, xs, hown, hrk, hrr⟩ := hm.heap id _ hh
  have hlk : ∀ i o, look ((id, Ob.dead) :: s.heap) i = some o → o.live = true → look s.heap i = some o ∧ i ≠ id := by
    intro i o h l
    rw [look_cons] at h
    split at h
    · cases h; cases l
    · rename_i hne; exact ⟨h, fun e => hne e.symm⟩
  have hst : Step F w0 w w ι ι s.heap ((id, Ob.dead) :: s.heap) s.nx s.nx := step_dead hm (fun i o h l => (hlk i o h l).1) (fun i o h => by
    rw [look_cons] at h
    split at h
    · rename_i e; rw [← e]; exact hid
    · exact (hm.heap _ _ h).1)
  have hav : Avoid (fun b => ∃ c, ι id = some (b, c)) ι ((id, Ob.dead) :: s.heap) := by
    rintro i o b c h1 h2 h3 ⟨c', h4⟩
    obtain ⟨h5, h6⟩ := hlk i o h1 h2
    exact h6 (hm.inj i id o _ b c c' h5 h2 hh rfl h3 h4)
  have hargs : RepList w (fun b => ∃ c, ι id = some (b, c)) (fun _ => none) [] 0 (M.args x) us :=
    leVs_rep hl (views_rep hm (fun b ⟨c, h⟩ => .inr ⟨id, _, c, hh, rfl, h⟩) (fun i o h l => (hlk i o h l).1) (.inl hav) hus)
  have huv : u = ownVal (ι id) (M.rows x).length := by cases hu with | osl _ _ hx h1 h => exact h _ _ _ hh
  rw [huv]
  refine (hM x (owned F ι s.heap) w w0.heap.size (ι id) xs us hpre (fun b c h => .inr ⟨id, _, c, hh, rfl, h⟩) hm.below.size hown ⟨hrk, hrr⟩ hargs).mono ?_
  rintro ed w' ⟨ys, xs', rfl, hdr, hg, hpost, hlen, hown', hrk', hrr'⟩
  refine ⟨_, rfl, hdr, ι, .tup [], s.put id (.row M.e M.k ys), rfl, ?_, .tup [] [] rfl (fun i s v hs _ => by simp at hs), hk ys hpost⟩
  cases hι : ι id with
  | none =>
    rw [hι] at hg hown
    have h0 : (M.rows x).length = 0 := by
      rcases hown.2 with ⟨_, h0⟩ | ⟨g, cap, cur, hv', _⟩
      · exact h0
      · simp [ownVal] at hv'
    have hb : Below w.heap.size w w' := ⟨hg.os, hg.tape, hg.output, hg.size, fun k hk => hg.block k hk (by simp [ownVal, Value.ownBlock])⟩
    have hys : ys = [] := List.eq_nil_of_length_eq_zero (by omega)
    have hes : M.rows x = [] := List.eq_nil_of_length_eq_zero h0
    have hs1 : Step F w0 w w' ι ι s.heap s.heap s.nx s.nx := by
      refine step_of (hm.below.trans (hb.mono hm.below.size)) hm (Keeps.of_below _ hb) (Shapes.refl _ _ _) (fun id o h => ⟨(hm.heap id o h).1, ?_⟩) hm.inj
      by_cases hl : o.live = true
      · exact ob_keep (hm.heap id o h).2 rfl (fun b c hι => hb.block b (live_lt hm h hl hι)) (Keeps.of_below _ hb) (Shapes.refl _ _ _)
      · cases o <;> simp [Ob.live] at hl
        trivial
    have same : ∀ i, look ((id, Ob.row M.e M.k ys) :: s.heap) i = look s.heap i := by
      intro i
      rw [look_cons]
      split
      · rename_i e; subst e; rw [hh, hys, hes]
      · rfl
    exact hs1.trans (step_dead hs1.mem (fun i o h _ => by rw [← same i]; exact h) (fun i o h => (hs1.mem.heap i o (by rw [← same i]; exact h)).1))
  | some p =>
    obtain ⟨b, c⟩ := p
    rw [hι] at hg hown hown'
    have hbase : w0.heap.size ≤ b := (World.ownsRow.lt hown b rfl).1
    refine step_put hm hh rfl hι hbase hg ⟨(fun _ h => by cases h), (fun _ _ _ h => by cases h; exact ⟨_, _, _, rfl, hlen.symm⟩), (fun _ _ _ h => by cases h)⟩ fun kp sh => ?_
    refine ⟨xs', by rw [hι, hlen]; exact hown', hrk', fun i cc v hc hv => (hrr' i cc v hc hv).keep ⟨Nat.le_refl _, fun _ _ _ _ _ h => h, fun b' hlt h => ?_⟩⟩
    rcases h with h | ⟨i', o', c', q1, q2, q3⟩
    · exact .inl h
    · rw [look_cons] at q1
      split at q1
      · rename_i e; subst e; exact .inr ⟨_, _, c', hh, rfl, q3⟩
      · exact .inr ⟨i', o', c', q1, q2, q3⟩
theorem step_nop {H : List (Nat × Ob)} {nx : Nat} (hm : Mem F w0 ι H nx w) : Step F w0 w w ι ι H H nx nx := step_dead hm (fun _ _ h _ => h) (fun id o h => (hm.heap id o h).1)
theorem madeCells_get (z : Array Value) (n i : Nat) (h : i < n) (hz : 0 < z.size) : (madeCells z n).toList[i]? = z.toList[i % z.size]? := by
  have : i % z.size < z.size := Nat.mod_lt _ hz
  simp [madeCells, h, this]
theorem rep_flat {α : Type} (l : List α) (k : Nat) (hl : l.length = k) (hk : 0 < k) : ∀ (n i : Nat), i < n * k → (List.replicate n l).flatten[i]? = l[i % k]?
  | 0, i, h => by omega
  | n + 1, i, h => by
    rw [List.replicate_succ, List.flatten_cons]
    by_cases hi : i < l.length
    · rw [List.getElem?_append_left hi, Nat.mod_eq_of_lt (by omega)]
    · rw [List.getElem?_append_right (by omega), rep_flat l k hl hk n _ (by rw [Nat.add_mul] at h; omega), hl, ← Nat.mod_eq_sub_mod (by omega)]

set_option maxHeartbeats 1000000 in
theorem eop_ok {q : Opts} {d : Option Nat} {op : Op} {io : IOp} {args : List Operand} {a : Act} {o : Oper} {xs : List SV} {K : SV → St → Prop} (hm : Mem F w0 ι s.heap s.nx w) (hl : lowOp P q d op = some (io, args)) (ho : o.op = op) (he : io.eff = true)
    (hx : RepList w (owned F ι s.heap) ι s.heap s.nx xs (args.map a.eval)) (hp : eop P io s xs K) :
    Gives P o a w (Left F w0 w ι s K) := by
  unfold lowOp at hl
  cases op <;> (try dsimp only at hl)
  case assign x =>
    split at hl
    · rename_i e hnil hown
      split at hl
      · rename_i k hk
        cases hl
        unfold eop at hp; dsimp only at hp
        have hxv : a.eval x = .slice none 0 0 := by
          unfold isNil at hnil
          split at hnil
          · rfl
          · cases hnil
        obtain ⟨h1, h2⟩ := step_row (w' := w) hm (Below.refl _ _) (e := e) (k := k) (es := []) (p := none) (xs := []) (fun b c h => by cases h) (World.ownsRow_nil _ _ _ _) (by simp) (by simp)
        exact gives_value (u := .slice none 0 0) (w' := w) (by simp [execOp, ho, hxv]) ⟨_, _, s.new _, rfl, h1, h2, hp⟩
      · cases hl
    · cases hl; cases he
  case alloc t =>
    split at hl
    · rename_i z hz
      cases hl
      unfold eop at hp; dsimp only at hp
      obtain ⟨i, zv, hi, hzv, _, hzr, _⟩ := zeros_rep (w := w) (own := owned F ι s.heap) (ι := ι) (H := s.heap) (nx := s.nx) hz
      obtain ⟨h1, h2⟩ := step_box hm t hzr (cells_map_c _)
      refine gives_value (u := .pointer (some ⟨w.heap.size, 0, none⟩)) (w' := w.alloc (.cells zv.cells t)) ?_ ⟨_, _, s.new _, rfl, h1, h2, hp⟩
      have hzr' : (zeroValue t).run P w = .ok zv w := by simp [zeroValue, typeInfo, hi, hzv]
      simp only [execOp, ho, Instr.alloc, Sem.run_bind, hzr', Result.andThen_ok, run_newVar, Sem.run_pure]
    · cases hl
  case box t x =>
    cases hl
    unfold eop at hp; dsimp only at hp
    split at hp
    · obtain ⟨hc, hp⟩ := chk_iff.1 hp
      obtain ⟨u, e, hu⟩ := replist_one hx
      simp at e; subst e
      obtain ⟨h1, h2⟩ := step_box hm t (cells_rep hu hc) (fun s hs => List.all_eq_true.1 hc s hs)
      refine gives_value (u := .pointer (some ⟨w.heap.size, 0, none⟩)) (w' := w.alloc (.cells (a.eval x).cells t)) ?_ ⟨_, _, s.new _, rfl, h1, h2, hp⟩
      simp only [execOp, ho, Instr.box, Sem.run_bind, run_newVar, Result.andThen_ok, Sem.run_pure]
    · exact hp.elim
  case store t x v =>
    split at hl
    · rename_i k hk
      cases hl
      unfold eop at hp; dsimp only at hp
      split at hp
      · rename_i id j sv
        split at hp
        · rename_i cs hh
          obtain ⟨hbq, hp⟩ := chk_iff.1 hp
          simp only [Bool.and_eq_true, Nat.beq_eq, Nat.ble_eq] at hbq
          obtain ⟨hle, hvl, hvc⟩ := hbq
          obtain ⟨u1, u2, e, hu1, hu2⟩ := replist_two hx
          simp at e; obtain ⟨rfl, rfl⟩ := e
          obtain ⟨b, cur, e, hv, hcur, hrl, hcell, ⟨c, hι⟩, hbase⟩ := box_cells hm hu1 hh
          have hcr := cells_rep hu2 hvc
          have hcl : cs.length = cur.size := by simpa using hrl.1
          have hvs : (a.eval v).cells.size = k := by have := hcr.1; simp at this; omega
          obtain ⟨w', hrun, hcur', hg⟩ := run_storeD (P := P) (w := w) hk hvs (fun u hu => by
            obtain ⟨i, hi⟩ := List.getElem?_of_mem hu
            have hlt : i < sv.cells.length := by rw [hcr.1]; exact (List.getElem?_eq_some_iff.1 hi).1
            exact (hcr.2 i _ u (List.getElem?_eq_getElem hlt) hi).one (List.all_eq_true.1 hvc _ (List.getElem_mem hlt))) hcur (off := j) (by omega)
          refine gives_skip (w' := w') ?_ ⟨ι, .none_, s.put id _, rfl, step_put hm hh rfl hι hbase hg ⟨fun cs' _ => ⟨cs, rfl⟩, (fun _ _ _ h => by cases h), (fun _ _ _ h => by cases h)⟩ fun kp sh => ?_, .none_ _, hp⟩
          · simp only [execOp, ho, Instr.storeAt, Instr.sureAddr, hv, Sem.run_bind, Sem.run_pure, Result.andThen_ok, hrun]
          · have hrl' := setL_rep (off := j) hrl hcr (by omega)
            refine ⟨b, c, _, e, hι, hbase, hcur', by rw [List.size_toArray, setL_len, setL_len]; simp [hcl], fun i s u hs hu => ⟨?_, (hrl'.2 i s u hs (by simpa using hu)).keep kp sh⟩⟩
            exact (setL_mem (List.mem_of_getElem? hs) (by omega)).elim (hcell s) fun h => List.all_eq_true.1 hvc s h
        · exact hp.elim
      · rename_i id k' i j sv
        split at hp
        · rename_i e k'' es l hh hcl
          obtain ⟨hbq, hi, hp⟩ := chk_iff.1 hp
          simp only [Bool.and_eq_true, Nat.beq_eq, Nat.ble_eq] at hbq
          obtain ⟨rfl, hle, hll⟩ := hbq
          have hi' := List.getElem?_eq_getElem hi
          have hp := hp _ hi'
          generalize es[i] = r at hp hi'
          obtain ⟨u1, u2, e1, hu1, hu2⟩ := replist_two hx
          simp at e1; obtain ⟨e1, rfl⟩ := e1
          have hvc := closedL_cell hcl
          have hcr := cells_rep hu2 hvc
          obtain ⟨j1, j2⟩ := closedL_nil hcl hcr
          obtain ⟨b, c, us, hι, hown, hrk, hcell, hus, hrep⟩ := row_cells hm hh hi'
          obtain ⟨_, us', hown', hkk, hrr⟩ := hm.heap id _ hh
          rw [hι] at hown'
          have hown0 : w.ownsRow w0.heap.size e k' (.slice (some ⟨b, 0, none⟩) es.length c) es.length us' := hown'
          rcases hown0.2 with ⟨h', _⟩ | ⟨g, cap, cur, h', hb, hg0, hnc, hcm, hcs, htake⟩
          · simp at h'
          · simp only [Value.slice.injEq, Option.some.injEq, Addr.mk.injEq, and_true, true_and] at h'
            obtain ⟨rfl, rfl⟩ := h'
            cases hu1 with
            | ep _ _ _ _ _ hx1 h1 h =>
              obtain ⟨b', c', hι', hv⟩ := h _ _ _ hh
              rw [hι] at hι'
              cases hι'
              have hvs : (a.eval v).cells.size = k := by have := j1; simp at this; omega
              have hmul : i * k' + k' ≤ es.length * k' := by rw [← Nat.succ_mul]; exact Nat.mul_le_mul_right k' hi
              have hmul2 : es.length * k' ≤ c * k' := Nat.mul_le_mul_right k' hnc
              obtain ⟨w', hrun, hcur', hg⟩ := run_storeD (P := P) (w := w) hk hvs (fun u hu => by
                obtain ⟨i, hi⟩ := List.getElem?_of_mem hu
                have hlt : i < l.length := by rw [← j1]; exact (List.getElem?_eq_some_iff.1 hi).1
                exact (j2 i _ u (List.getElem?_eq_getElem hlt) hi).one) hg0 (off := i * k' + j) (by omega)
              have hset : ∀ r' ∈ es.set i (setL r j l), r'.length = k' := by
                intro r' hr'
                rcases List.mem_or_eq_of_mem_set hr' with h | h
                · exact hkk r' h
                · rw [h, setL_len]; exact hrk
              have hsl : (es.set i (setL r j l)).length = es.length := by simp
              refine gives_skip (w' := w') ?_ ⟨ι, .none_, s.put id _, rfl, step_put hm hh rfl hι hb hg ⟨(fun _ h => by cases h), (fun _ _ _ h => by cases h; exact ⟨e, k', es, rfl, by simp⟩), (fun _ _ _ h => by cases h)⟩ fun kp sh => ?_, .none_ _, hp⟩
              · rw [hv] at e1
                simp only [execOp, ho, Instr.storeAt, Instr.sureAddr, e1, Sem.run_bind, Sem.run_pure, Result.andThen_ok, hrun]
              · refine ⟨setL us' (i * k' + j) (a.eval v).cells.toList, ?_, hset, fun m cc u hc hu => ?_⟩
                · rw [hι, hsl]
                  refine ⟨by rw [setL_len, hown0.1], .inr ⟨b, c, _, rfl, hb, hcur', hnc, hcm, by rw [List.size_toArray, setL_len]; simpa using hcs, ?_⟩⟩
                  rw [← htake, List.toList_toArray, setL_take _ _ _ _ (by simp; omega) (by simp; omega)]
                · rw [flatten_set hkk hi' (by omega), setL_get _ _ _ _ (by rw [flatten_len hkk]; omega)] at hc
                  rw [setL_get _ _ _ _ (by rw [hown0.1, Array.length_toList, hvs]; omega)] at hu
                  have hul : (a.eval v).cells.toList.length = l.length := j1
                  split at hc
                  · rw [if_pos (by omega)] at hu
                    exact (j2 _ cc u hc hu).keep kp
                  · rw [if_neg (by omega)] at hu
                    exact (hrr _ cc u hc hu).keep kp
        · exact hp.elim
      · exact hp.elim
    · cases hl
  case makeSlice t l c =>
    split at hl
    · rename_i e hu
      split at hl
      · rename_i i z hi hz
        split at hl
        · rename_i hcond
          obtain ⟨hzl, hpos⟩ := hcond
          cases hl
          unfold eop at hp; dsimp only at hp
          split at hp
          · rename_i k1 n k2 c'
            obtain ⟨⟨h0, h1, h2, h3⟩, hp⟩ := hp
            obtain ⟨u1, u2, e1, hu1, hu2⟩ := replist_two hx
            simp at e1; obtain ⟨e1, e2⟩ := e1
            rw [rep_int hu1] at e1
            rw [rep_int hu2] at e2
            obtain ⟨i', zv, hi', hzv, hzs, _, hzr⟩ := zeros_rep (w := w) (own := owned F ι s.heap) (ι := ι) (H := s.heap) (nx := s.nx) hz
            rw [hi] at hi'
            cases hi'
            obtain ⟨n, rfl⟩ := Int.eq_ofNat_of_zero_le h0
            obtain ⟨c', rfl⟩ := Int.eq_ofNat_of_zero_le (by omega : 0 ≤ c')
            have hrun := run_make (P := P) w t e i zv hu hi hzv k1 k2 n c' (by omega) h1 (by rw [Int.mul_comm]; omega) (by omega)
            simp only [Int.toNat_natCast] at hrun hp
            have hzk : zv.cells.size = i.size := by omega
            have hnc : n ≤ c' := by omega
            have hmul : n * i.size ≤ c' * i.size := Nat.mul_le_mul_right _ hnc
            have hrl : (List.replicate n z).length = n := by simp
            obtain ⟨q1, q2⟩ := step_row (F := F) (w0 := w0) (ι := ι) (H := s.heap) (nx := s.nx) (w' := w.alloc (.cells (madeCells zv.cells (c' * i.size)) e)) hm ((Below.refl _ _).alloc (Nat.le_refl _) _) (e := e) (k := i.size) (es := List.replicate n z) (p := some (w.heap.size, c')) (xs := (madeCells zv.cells (c' * i.size)).toList.take (n * i.size))
              (fun b c h => by cases h; exact Nat.le_refl _)
              (by
                rw [hrl]
                exact ⟨by rw [List.length_take, Array.length_toList, size_madeCells]; omega, .inr ⟨w.heap.size, c', _, rfl, Nat.le_refl _, heap_alloc_new w _, hnc, by unfold maxLen; omega, size_madeCells _ _, rfl⟩⟩)
              (fun r hr => by rw [List.eq_of_mem_replicate hr]; exact hzl)
              (fun j cc v hc hv => by
                obtain ⟨g1, g2⟩ := take_get _ _ _ _ hv
                rw [madeCells_get _ _ _ (by omega) (by omega), hzk] at g1
                rw [rep_flat z i.size hzl hpos n j g2] at hc
                exact hzr _ cc v hc g1)
            rw [hrl] at q2
            refine gives_value (u := .slice (some ⟨w.heap.size, 0, none⟩) n c') ?_ ⟨_, _, s.new _, rfl, q1, q2, hp⟩
            simp only [execOp, ho, e1, e2, Sem.run_bind, hrun, Result.andThen_ok, Sem.run_pure]
          · exact hp.elim
        · cases hl
      · cases hl
    · cases hl
  case buildSlice t n ps =>
    split at hl
    · rename_i e hu
      split at hl
      · rename_i i hi
        split at hl
        · rename_i z hz
          split at hl
          · rename_i hcond
            split at hl
            · cases hl
              unfold eop at hp; dsimp only at hp
              split at hp
              · rename_i es hes
                obtain ⟨hc1, hc2, hc3, hc4, hc5⟩ := hcond
                obtain ⟨r1, r2, r3, r4⟩ := rows_rep hes hx
                have hlen : ps.toList.length = n := by simp [hc4]
                have hpk : ∀ p ∈ ps.toList, (a.eval p.2).cells.size = i.size := fun p hp => r3 _ (List.mem_map.2 ⟨p.2, List.mem_map.2 ⟨p, hp, rfl⟩, rfl⟩)
                have hfl : (ps.toList.map (·.2)).map a.eval = ps.toList.map fun p => a.eval p.2 := by simp [Function.comp_def]
                have hout : ∀ cells : Array Value, cells.size = n * i.size → Instr.fill (fun j => some (j * i.size, i.size)) cells (ps.map fun (i, x) => (i, a.eval x)).toList = some (ps.toList.flatMap fun p => (a.eval p.2).cells.toList).toArray := by
                  intro cells hcs
                  have := fill_rows i.size a.eval ps.toList 0 cells hc5 hpk (by rw [hlen, hcs]; omega)
                  rw [Nat.zero_mul, setL_all _ _ (by rw [flat_len _ _ _ hpk, hlen, Array.length_toList, hcs])] at this
                  rw [← this]
                  simp
                have hrun := run_buildSlice (P := P) hu hi hz hc3 hout w
                have hesl : es.length = n := by rw [r1]; simp [hc4]
                have hnn : n * 1 ≤ n * i.size := Nat.mul_le_mul_left n (by omega)
                obtain ⟨h1, h2⟩ := step_row (F := F) (w0 := w0) (ι := ι) (H := s.heap) (nx := s.nx) (w' := w.alloc (.cells (ps.toList.flatMap fun p => (a.eval p.2).cells.toList).toArray e)) hm ((Below.refl _ _).alloc (Nat.le_refl _) _) (e := e) (k := i.size) (es := es) (p := some (w.heap.size, n)) (xs := ps.toList.flatMap fun p => (a.eval p.2).cells.toList)
                  (fun b c h => by cases h; exact Nat.le_refl _)
                  (by
                    rw [hesl]
                    have := World.ownsRow_lit (base := w.heap.size) (e := e) (size := i.size) w (ps.toList.flatMap fun p => (a.eval p.2).cells.toList).toArray n (Nat.le_refl _) (by unfold maxLen; omega) (by rw [List.size_toArray, flat_len _ _ _ hpk, hlen])
                    exact this) r2 (fun j c v hc hv => r4 j c v hc (by rw [hfl, List.flatMap_map]; exact hv))
                rw [hesl] at h2
                refine gives_value (u := .slice (some ⟨w.heap.size, 0, none⟩) n n) ?_ ⟨_, _, s.new _, rfl, h1, h2, hp⟩
                simp only [execOp, ho, Sem.run_bind, hrun, Result.andThen_ok, Sem.run_pure]
              · exact hp.elim
            · cases hl; cases he
          · cases hl
        · cases hl
      · cases hl
    · cases hl
  case slice t x lo hi mx =>
    cases mx <;> (try dsimp only at hl) <;> first | (cases hl; done) | skip
    split at hl
    · rename_i e hu
      split at hl
      · rename_i k hk
        split at hl
        · cases hl
          unfold eop at hp; dsimp only at hp
          split at hp
          · rename_i id r
            split at hp
            · rename_i e' k' es hh
              split at hp
              · rename_i l h hb
                obtain ⟨hbq, ⟨h0, h1, h2⟩, hp⟩ := chk_iff.1 hp
                rw [Nat.beq_eq] at hbq
                subst hbq
                obtain ⟨u, us, e1, hu1, hus⟩ := replist_cons hx
                simp only [List.cons_append, List.map_cons, List.cons.injEq] at e1
                obtain ⟨e0, e1⟩ := e1
                have hlk : ∀ i o, look ((id, Ob.dead) :: s.heap) i = some o → o.live = true → look s.heap i = some o := by
                  intro i o h l
                  rw [look_cons] at h
                  split at h
                  · cases h; cases l
                  · exact h
                have hst : Step F w0 w w ι ι s.heap ((id, Ob.dead) :: s.heap) s.nx s.nx := step_dead hm hlk (fun i o h => by
                  rw [look_cons] at h
                  split at h
                  · rename_i e; rw [← e]; exact (hm.heap _ _ hh).1
                  · exact (hm.heap _ _ h).1)
                have hview : RepC w (owned F ι ((id, Ob.dead) :: s.heap)) (.sl k' es) u := by
                  cases hu1 with
                  | osl _ _ hx1 g1 g =>
                    rw [g _ _ _ hh]
                    refine row_view hm (fun b hb => hb.imp (fun h => h) fun ⟨i, o, c, q1, q2, q3⟩ => ⟨i, o, c, hlk i o q1 q2, q2, q3⟩) hh fun b c hι hown => ?_
                    rcases hown with hF | ⟨i, o, c', q1, q2, q3⟩
                    · obtain ⟨xs, hown, _⟩ := (hm.heap _ _ hh).2
                      rw [hι] at hown
                      have := (World.ownsRow.lt hown b rfl).1
                      have := hm.fb b hF
                      omega
                    · have q4 := hlk i o q1 q2
                      have := hm.inj i id o _ b c' c q4 q2 hh rfl q3 hι
                      subst this
                      rw [look_cons, if_pos rfl] at q1
                      cases q1; cases q2
                have hlohi : (match lo.map a.eval with | some v => ∃ kd, v = .int kd l | none => l = 0) ∧ (match hi.map a.eval with | some v => ∃ kd, v = .int kd h | none => h = es.length) := by
                  rcases sliceB_spec hb with ⟨q1, q2, rfl, rfl, rfl⟩ | ⟨q1, q2, kd, rfl, rfl⟩ | ⟨q1, q2, kd, rfl, rfl⟩ | ⟨q1, q2, kd, kd', rfl⟩
                  · cases lo <;> cases hi <;> first | (cases q1; done) | (cases q2; done) | skip
                    exact ⟨rfl, rfl⟩
                  · cases lo <;> cases hi <;> first | (cases q1; done) | (cases q2; done) | skip
                    obtain ⟨u, e2, hu2⟩ := replist_one hus
                    subst e2; simp at e1; subst e1
                    exact ⟨⟨_, rep_int hu2⟩, rfl⟩
                  · cases lo <;> cases hi <;> first | (cases q1; done) | (cases q2; done) | skip
                    obtain ⟨u, e2, hu2⟩ := replist_one hus
                    subst e2; simp at e1; subst e1
                    exact ⟨rfl, _, rep_int hu2⟩
                  · cases lo <;> cases hi <;> first | (cases q1; done) | (cases q2; done) | skip
                    obtain ⟨u, u', e2, hu2, hu3⟩ := replist_two hus
                    subst e2; simp at e1; obtain ⟨rfl, rfl⟩ := e1
                    exact ⟨⟨_, rep_int hu2⟩, _, rep_int hu3⟩
                obtain ⟨y, hrun, hy⟩ := slice_run (P := P) hu hk hview hlohi.1 hlohi.2 h0 h1 h2
                refine gives_value (u := y) (w' := w) ?_ ⟨ι, _, s.put id .dead, rfl, hst, .c _ _ hy, hp⟩
                rw [← e0] at hrun
                simp only [execOp, ho, Sem.run_bind, hrun, Option.map_none, Result.andThen_ok, Sem.run_pure]
              · exact hp.elim
            · exact hp.elim
          · exact hp.elim
        · cases hl; cases he
      · cases hl
    · cases hl
  case call c =>
    unfold lowCall at hl
    split at hl
    · rename_i b hcal
      unfold lowBuiltin at hl
      split at hl
      · split at hl
        · split at hl
          · cases hl; cases he
          · cases hl
        · cases hl
      · split at hl
        · cases hl; cases he
        · cases hl
      · split at hl
        · cases hl; cases he
        · cases hl
      · split at hl
        · rename_i x y t t' ha ht
          split at hl
          · rename_i ett
            subst ett
            split at hl
            · rename_i e hu
              split at hl
              · rename_i i hi
                split at hl
                · rename_i z hz
                  split at hl
                  · rename_i hcond
                    cases hl
                    obtain ⟨hzs, hpos⟩ := hcond
                    obtain ⟨u1, u2, xs1, e1, e2, hu1, hu2⟩ : ∃ u1 u2, ∃ sx : SV × SV, xs = [sx.1, sx.2] ∧ (a.eval x = u1 ∧ a.eval y = u2) ∧ Rep w (owned F ι s.heap) ι s.heap s.nx sx.1 u1 ∧ Rep w (owned F ι s.heap) ι s.heap s.nx sx.2 u2 := by
                      cases xs with
                      | nil => have := hx.1; simp at this
                      | cons x1 r => cases r with
                        | nil => have := hx.1; simp at this
                        | cons x2 r => cases r with
                          | nil =>
                            obtain ⟨u1, u2, e, h1, h2⟩ := replist_two hx
                            simp at e
                            exact ⟨u1, u2, (x1, x2), rfl, e, h1, h2⟩
                          | cons x3 r => have := hx.1; simp at this
                    obtain ⟨sx, sy⟩ := xs1
                    subst e1
                    dsimp only at hu1 hu2
                    obtain ⟨rfl, rfl⟩ := e2
                    have hrun : ∀ v A m cp v' w', a.eval x = v → a.eval y = .slice A m cp → (Builtin.append_ #[t, t] o.type #[v, .slice A m cp]).run P w = .ok v' w' → (execOp a.eval o).run P w = .ok (.value v') w' := by
                      intro v A m cp v' w' q1 q2 q3
                      obtain ⟨cl, args, ts⟩ := c
                      obtain ⟨args⟩ := args
                      obtain ⟨ts⟩ := ts
                      simp at ha ht hcal
                      subst ha; subst ht; subst hcal
                      simp [execOp, ho, resolve, invoke, builtin, q1, q2, q3]
                    unfold eop at hp; dsimp only at hp
                    split at hp
                    · rename_i src heq
                      cases heq
                      split at hp
                      · rename_i ys hys
                        obtain ⟨⟨hby, hby2⟩, hp⟩ := hp
                        obtain ⟨A, cp, zs, hey, hrd, hyk, hz1, hyr⟩ := src_reads hm hys hu2
                        have hex := rep_nil hu1
                        obtain ⟨v', w', q1, q2, q3, q4⟩ := run_append_any (P := P) w w.heap.size t o.type e i z i.size i.bytes hu hi hz rfl rfl hzs hpos (.slice none 0 0) 0 [] (World.ownsRow_nil _ _ _ _) _ A ys.length cp zs hrd hz1 (by unfold maxLen; omega) (by simpa using hby) (Nat.le_refl _)
                        obtain ⟨p', rfl, hp'⟩ := own_form q2
                        have hb : Below w.heap.size w w' := ⟨q3.os, q3.tape, q3.output, q3.size, fun k hk => q3.block k hk (by simp [Value.ownBlock])⟩
                        simp only [Nat.zero_add, List.nil_append] at q2 q4 hp'
                        obtain ⟨r1, r2⟩ := step_row (F := F) (w0 := w0) (ι := ι) (H := s.heap) (nx := s.nx) hm hb (e := e) (k := i.size) (es := ys) (p := p') (xs := zs) (fun b c h => by
                          have := hp' b c h
                          rcases q4 with q4 | q4
                          · rw [this] at q4; simp [Value.ownBlock] at q4
                          · rw [this] at q4; cases q4; exact Nat.le_refl _) q2 hyk hyr
                        refine gives_value (hrun _ _ _ _ _ _ hex hey q1) ⟨_, _, s.new _, rfl, r1, ?_, hp⟩
                        rw [Nat.zero_add]; exact r2
                      · exact hp.elim
                    · rename_i id src heq
                      cases heq
                      split at hp
                      · rename_i e' k' es ys hh hys
                        replace hp := chk_iff.1 hp
                        obtain ⟨hbq, ⟨hby, hby2⟩, hp⟩ := hp
                        simp only [Bool.and_eq_true, Nat.beq_eq] at hbq
                        obtain ⟨rfl, rfl⟩ := hbq
                        obtain ⟨A, cp, zs, hey, hrd, hyk, hz1, hyr⟩ := src_reads hm hys hu2
                        obtain ⟨_, us, hown, hkk, hrr⟩ := hm.heap id _ hh
                        cases hu1 with
                        | osl _ _ hx1 g1 g =>
                          have hex := g _ _ _ hh
                          obtain ⟨v', w', q1, q2, q3, q4⟩ := run_append_any (P := P) w w0.heap.size t o.type e' i z i.size i.bytes hu hi hz rfl rfl hzs hpos _ es.length us hown _ A ys.length cp zs hrd hz1 (by unfold maxLen; omega) (by simpa using hby) hm.below.size
                          obtain ⟨p', rfl, hp'⟩ := own_form q2
                          obtain ⟨r1, r2⟩ := step_append hm hh (ys := ys) q3 q4 q2 (fun r hr => (List.mem_append.1 hr).elim (hkk r) (hyk r)) (fun j cc v hc hv => by
                            rw [List.flatten_append] at hc
                            have hfl : es.flatten.length = us.length := by rw [flatten_len hkk, hown.1]
                            by_cases hj : j < es.flatten.length
                            · rw [List.getElem?_append_left hj] at hc
                              rw [List.getElem?_append_left (by omega)] at hv
                              exact hrr j cc v hc hv
                            · rw [List.getElem?_append_right (by omega)] at hc
                              rw [List.getElem?_append_right (by omega)] at hv
                              rw [← hfl] at hv
                              exact hyr _ cc v hc hv)
                          exact gives_value (hrun _ _ _ _ _ _ hex hey q1) ⟨_, _, (s.put id .dead).new _, rfl, r1, r2, hp⟩
                      · exact hp.elim
                    · exact hp.elim
                  · cases hl
                · cases hl
              · cases hl
            · cases hl
          · cases hl
        · cases hl
      · cases hl
    · rename_i f hcal
      split at hl
      · rename_i hcb
        split at hl
        · cases hl
          unfold eop at hp; dsimp only at hp
          split at hp
          · rename_i id r
            split at hp
            · rename_i e k es hh
              obtain ⟨u, us, e1, hu1, hus⟩ := replist_cons hx
              refine gives_call (f := f) (args := (u :: us).toArray) ?_ (callM_ok hm hu1 hus hh hp)
              obtain ⟨cl, args, ts⟩ := c
              obtain ⟨args⟩ := args
              simp at hcal e1
              subst hcal
              simp [execOp, ho, resolve, invoke, Act.eval, Deferred.ofValue, run_callFunc hcb]
              rw [← e1]
            · exact hp.elim
          · exact hp.elim
        split at hl
        · cases hl
          unfold eop at hp; dsimp only at hp
          refine gives_call (f := f) (args := (c.args.toList.map a.eval).toArray) ?_ (callO_ok hm hx hp)
          obtain ⟨cl, args, ts⟩ := c
          obtain ⟨args⟩ := args
          simp at hcal
          subst hcal
          simp [execOp, ho, resolve, invoke, Act.eval, Deferred.ofValue, run_callFunc hcb]
        · cases hl; cases he
      · cases hl
    · cases hl; cases he
    · cases hl
  case binOp bo t x y yt =>
    unfold lowBinN at hl
    split at hl
    · rename_i el hu hnil
      have hyv : a.eval y = .slice none 0 0 := by
        unfold isNil at hnil
        split at hnil
        · rfl
        · cases hnil
      have key : ∀ (neq : Bool) (A : Option Addr) (m c : Nat), (bo = if neq then .neq else .eql) → a.eval x = .slice A m c → (execOp a.eval o).run P w = .ok (.value (.bool (if neq then !A.isNone else A.isNone))) w := by
        intro neq A m c hb hxv
        have hgd : ∀ b, (eqGuard b t x y (.slice A m c) (.slice none 0 0)).run P w = .ok () w := by intro b; cases b <;> simp [eqGuard]
        cases neq <;> simp at hb <;> subst hb
        · simp only [execOp, ho, hxv, hyv, Sem.run_bind, hgd, Result.andThen_ok, Lib.run_eql_slice_nil w t el A m c 0 0 hu, Sem.run_pure, Bool.false_eq_true, if_false]
        · simp only [execOp, ho, hxv, hyv, Sem.run_bind, hgd, Result.andThen_ok, run_neq_slice_nil_any w t el A m c 0 0 hu, Sem.run_pure, if_true]
      have stay : ∀ v u, Rep w (owned F ι s.heap) ι s.heap s.nx v u → K v s → Left F w0 w ι s K u w := fun v u hr hk => ⟨ι, v, s, rfl, step_nop hm, hr, hk⟩
      have main : ∀ neq : Bool, (bo = if neq then .neq else .eql) → (io, args) = (.isnil neq, [x]) → Gives P o a w (Left F w0 w ι s K) := by
        intro neq hb e0
        cases e0
        unfold eop at hp; dsimp only at hp
        have both : ∀ (es : List (List CV)) (A : Option Addr) (m c : Nat), a.eval x = .slice A m c → (A = none → es = []) → ((es = [] → K (.c (.bool (!neq))) s) ∧ K (.c (.bool neq)) s) → Gives P o a w (Left F w0 w ι s K) := by
          intro es A m c hxv hA hk
          refine gives_value (key neq A m c hb hxv) (stay (.c (.bool (if neq then !A.isNone else A.isNone))) _ (rep_mk_bool _) ?_)
          cases A with
          | none => have := hk.1 (hA rfl); cases neq <;> simpa using this
          | some ad => have := hk.2; cases neq <;> simpa using this
        split at hp
        · obtain ⟨u, e, hu'⟩ := replist_one hx
          simp at e
          rw [rep_nil hu'] at e
          refine gives_value (key neq none 0 0 hb e) (stay (.c (.bool (!neq))) _ ?_ hp)
          cases neq <;> exact rep_mk_bool _
        · obtain ⟨u, e, hu'⟩ := replist_one hx
          simp at e
          cases hu' with
          | c _ _ hrc => cases hrc with
            | sl _ _ A c' us hkk hc1 hc2 hl hA hrr =>
              refine both _ A _ c' e (fun hn => ?_) hp
              rename_i es
              cases es with
              | nil => rfl
              | cons y r => obtain ⟨b, off, h', _⟩ := hA (by simp); rw [hn] at h'; cases h'
        · rename_i id
          split at hp
          · rename_i es hh
            obtain ⟨u, e, hu'⟩ := replist_one hx
            simp at e
            cases hu' with
            | osl _ _ hx1 g1 g =>
              have hv := g _ _ _ hh
              obtain ⟨_, us, hown, _⟩ := hm.heap _ _ hh
              cases hι : ι id with
              | none =>
                rw [hι] at hv hown
                have h0 : es = [] := by
                  rcases hown.2 with ⟨_, h0⟩ | ⟨g, cap, cur, hv', _⟩
                  · exact List.eq_nil_of_length_eq_zero h0
                  · simp [ownVal] at hv'
                exact both es none 0 0 (e.trans hv) (fun _ => h0) hp
              | some p =>
                rw [hι] at hv
                exact both es (some ⟨p.1, 0, none⟩) es.length p.2 (e.trans hv) (fun h => by cases h) hp
          · exact hp.elim
        · exact hp.elim
      split at hl <;> first | (cases hl; done) | skip
      · exact main false rfl (Option.some.inj hl).symm
      · exact main true rfl (Option.some.inj hl).symm
    unfold lowBin at hl
    repeat' split at hl
    all_goals first | (cases hl; done) | (cases hl; cases he; done)
  case makeMap t r =>
    split at hl
    · rename_i kn ag hT
      cases hl
      obtain ⟨K', E, u, h1, h2, h3, rfl⟩ := mapT_spec hT
      have main : ∀ K0 : SV → St → Prop, K0 (.mp s.nx) (s.new (.map kn (aggD u) [])) → (execOp a.eval o).run P w = .ok (.value (.map (some w.heap.size))) (w.alloc (.map #[] 0)) → Gives P o a w (Left F w0 w ι s K0) := by
        intro K0 hK hrun
        have hst := step_new (F := F) (w0 := w0) (ι := ι) (H := s.heap) (nx := s.nx) (w' := w.alloc (.map #[] 0)) hm ((Below.refl _ _).alloc (Nat.le_refl _) _) (some (w.heap.size, 0)) (.map kn (aggD u) []) (fun b c e => by cases e; exact Nat.le_refl _) fun k sh => ⟨w.heap.size, 0, #[], 0, upd_self _ _ _, hm.below.size, heap_alloc_new w _, rfl, fun p hp => by cases hp⟩
        exact gives_value hrun ⟨_, .mp s.nx, s.new _, rfl, hst, .mp _ _ (Nat.lt_succ_self _) rfl fun _ _ _ _ => ⟨w.heap.size, 0, upd_self _ _ _, rfl⟩, hK⟩
      unfold eop at hp; dsimp only at hp
      split at hp
      · refine main K hp ?_
        cases r with
        | none => simp only [execOp, ho, Instr.makeMap, Option.map_none, Sem.run_bind, Sem.run_pure]; rfl
        | some x => have := hx.1; simp at this
      · rename_i kd n
        refine main K hp ?_
        obtain ⟨v, e, hv⟩ := replist_one hx
        cases r with
        | none => simp at e
        | some x =>
          simp at e
          rw [rep_int hv] at e
          simp only [execOp, ho, Instr.makeMap, Option.map_some, Sem.run_bind, run_underlying h1, e, Sem.run_pure, Result.andThen_ok]; rfl
      · exact hp.elim
    · cases hl
  case mapUpdate t m kk x =>
    split at hl
    · rename_i kn ag hT
      cases hl
      unfold eop at hp; dsimp only at hp
      split at hp
      · rename_i id key v
        split at hp
        · rename_i kn' ag' kv k l hh hkey hcl
          obtain ⟨hbq, hp⟩ := chk_iff.1 hp
          simp only [Bool.and_eq_true, Nat.beq_eq] at hbq
          obtain ⟨rfl, hag, hkl, hls, hvo⟩ := hbq
          have hag := bB_eq hag
          subst hag
          obtain ⟨u1, u2, u3, e, hu1, hu2, hu3⟩ := replist_three hx
          simp at e; obtain ⟨e1, e2, e3⟩ := e
          rw [keyOf_rep hkey hu2] at e2
          obtain ⟨hv1, hv2⟩ := val_rep hcl hls hvo hu3
          rw [hv1] at e3
          obtain ⟨b, c, arr, ck, q1, q2, q3, q4, q5⟩ := (hm.heap id _ hh).2
          cases hu1 with
          | mp _ _ hx1 g1 g =>
            obtain ⟨b', c', hι', hvv⟩ := g _ _ _ hh
            rw [q1] at hι'
            cases hι'
            rw [hvv] at e1
            obtain ⟨w', arr', ck', hrun, hg, hb', hmap⟩ := mrun_update (l := l) hT q3 q4 (fun p hp => (q5 p hp).1) hkl
            refine gives_skip (w' := w') ?_ ⟨ι, .none_, s.put id (.map kn ag (setKV k l kv)), rfl, step_put (o' := .map kn ag (setKV k l kv)) hm hh rfl q1 q2 hg ⟨(fun _ h => by cases h), (fun _ _ _ h => by cases h), (fun _ _ _ _ => ⟨_, _, _, rfl⟩)⟩ fun kp sh => ⟨b, c, arr', ck', q1, q2, hb', hmap, ?_⟩, .none_ _, hp⟩
            · simp only [execOp, ho, e1, e2, e3, Sem.run_bind, hrun, Result.andThen_ok, Sem.run_pure]
            · exact setKV_all ⟨hkl, by rw [hls, hv2]; rfl⟩ q5
        · exact hp.elim
      · exact hp.elim
    · cases hl
  case lookup t m kk ok =>
    split at hl
    · rename_i kn ag z hT hz
      cases hl
      unfold eop at hp; dsimp only at hp
      split at hp
      · rename_i id key
        split at hp
        · rename_i kn' ag' kv k hh hkey
          obtain ⟨hbq, hp1, hp2⟩ := chk_iff.1 hp
          simp only [Bool.and_eq_true, Nat.beq_eq] at hbq
          obtain ⟨rfl, hag, hkl, hzs, hz1⟩ := hbq
          have hag := bB_eq hag
          subst hag
          obtain ⟨u1, u2, e, hu1, hu2⟩ := replist_two hx
          simp at e; obtain ⟨e1, e2⟩ := e
          rw [keyOf_rep hkey hu2] at e2
          obtain ⟨b, c, arr, ck, q1, q2, q3, q4, q5⟩ := (hm.heap id _ hh).2
          cases hu1 with
          | mp _ _ hx1 g1 g =>
            obtain ⟨b', c', hι', hvv⟩ := g _ _ _ hh
            rw [q1] at hι'
            cases hι'
            rw [hvv] at e1
            have hrun := mrun_lookup (ok := ok) hT hz hzs q3 q4 (fun p hp => (q5 p hp).1) hkl
            have hfs : ∀ l, findKV k kv = some l → l.all CV.scalar = true := by
              intro l hl
              obtain ⟨p, hp, rfl⟩ := findKV_mem hl
              have := (q5 p hp).2
              simp only [Bool.and_eq_true] at this
              exact this.1
            have hgot : ∃ v, K v s ∧ Rep w (owned F ι s.heap) ι s.heap s.nx v (if ok then .tuple #[encCell ag ((findKV k kv).getD z), .bool (findKV k kv).isSome] else encCell ag ((findKV k kv).getD z)) := by
              cases hf : findKV k kv with
              | none => exact got_rep (hp2 hf) hzs
              | some l => exact got_rep (hp1 l hf) (hfs l hf)
            obtain ⟨v, hK, hv⟩ := hgot
            refine gives_value (w' := w) ?_ ⟨ι, v, s, rfl, step_nop hm, hv, hK⟩
            simp only [execOp, ho, e1, e2, Sem.run_bind, hrun, Result.andThen_ok, Sem.run_pure]
        · exact hp.elim
      · exact hp.elim
    · cases hl
  case makeFunc fn _ _ =>
    cases fn <;> (try dsimp only at hl) <;> (repeat' split at hl) <;> first | (cases hl; done) | (cases hl; cases he; done)
  all_goals first | (cases hl; done) | (cases hl; cases he; done) | skip
  all_goals ((repeat' split at hl) <;> first | (cases hl; done) | (cases hl; cases he; done))
end
end Go.Proofs.Ytfghmpfiemmbgaa
