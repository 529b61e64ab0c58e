/- The abstract walk is sound: operations that change what the call owns. No program in sight. -/
import Derived.Test.YtfghmpfiemmbgaaB2
import Derived.Laws.MakeOwn
namespace Go.Proofs.Ytfghmpfiemmbgaa
open Go.RowKit

section
variable {P : Program} {F : Nat → Prop} {w0 w w' : World} {ι ι' : Iota} {H H' : List (Nat × Ob)} {nx nx' : Nat}

theorem run_newVar (t : TypeId) (v : Value) (w : World) : (newVar t v).run P w = .ok ⟨w.heap.size, 0, none⟩ (w.alloc (.cells v.cells t)) := rfl

/-- A new box. -/
theorem step_box (hm : Mem F w0 ι H nx w) {cs : List SV} {vs : Array Value} (t : TypeId) (hr : RepList w (owned F ι H) ι H nx cs vs.toList) (hc : ∀ s ∈ cs, s.cell = true) :
    Step F w0 w (w.alloc (.cells vs t)) ι (upd ι nx (some (w.heap.size, 0))) H ((nx, .box cs) :: H) nx (nx + 1) ∧
      Rep (w.alloc (.cells vs t)) (owned F (upd ι nx (some (w.heap.size, 0))) ((nx, .box cs) :: H)) (upd ι nx (some (w.heap.size, 0))) ((nx, .box cs) :: H) (nx + 1) (.bp nx 0) (.pointer (some ⟨w.heap.size, 0, none⟩)) := by
  refine ⟨step_new hm ((Below.refl _ _).alloc (Nat.le_refl _) _) (some (w.heap.size, 0)) (.box cs) (fun b c e => by cases e; exact Nat.le_refl _) fun k sh => ?_, .bp nx 0 _ (by omega) rfl fun cs' h => ⟨w.heap.size, 0, upd_self _ _ _, rfl⟩⟩
  refine ⟨w.heap.size, 0, vs, t, upd_self _ _ _, hm.below.size, heap_alloc_new w _, by have := hr.1; simp at this; omega, fun j s u hs hu => ⟨hc s (List.mem_of_getElem? hs), (hr.2 j s u hs (by simpa using hu)).keep k sh⟩⟩

/-- A new row. -/
theorem step_row (hm : Mem F w0 ι H nx w) (hb : Below w.heap.size w w') {e k : Nat} {es : List (List CV)} {p : Option (Nat × Nat)} {xs : List Value} (hp : ∀ b c, p = some (b, c) → w.heap.size ≤ b) (ho : w'.ownsRow w.heap.size e k (ownVal p es.length) es.length xs)
    (hk : ∀ r ∈ es, r.length = k) (hr : ∀ (i : Nat) (c : CV) (v : Value), es.flatten[i]? = some c → xs[i]? = some v → RepC w (owned F ι H) c v) :
    Step F w0 w w' ι (upd ι nx p) H ((nx, .row e k es) :: H) nx (nx + 1) ∧ Rep w' (owned F (upd ι nx p) ((nx, .row e k es) :: H)) (upd ι nx p) ((nx, .row e k es) :: H) (nx + 1) (.osl nx) (ownVal p es.length) := by
  refine ⟨step_new hm hb p (.row e k es) hp fun kp sh => ?_, .osl nx _ (by omega) (by cases p <;> rfl) fun e' k' es' h => ?_⟩
  · refine ⟨xs, ?_, hk, fun i c v hc hv => (hr i c v hc hv).keep kp⟩
    rw [upd_self]
    obtain ⟨h1, h2⟩ := ho
    refine ⟨h1, h2.imp id fun ⟨g, cap, cur, q1, q2, q3⟩ => ⟨g, cap, cur, q1, Nat.le_trans hm.below.size q2, q3⟩⟩
  · rw [look_cons, if_pos rfl] at h
    cases h
    rw [upd_self]

theorem setL_eq {α : Type} (l xs : List α) (off : Nat) (h : off + xs.length ≤ l.length) : setL l off xs = l.take off ++ xs ++ l.drop (off + xs.length) := by
  apply List.ext_getElem?
  intro i
  rw [setL_get _ _ _ _ h]
  by_cases h1 : i < off
  · rw [if_neg (by omega), List.append_assoc, List.getElem?_append_left (by simp; omega), List.getElem?_take_of_lt h1]
  · by_cases h2 : i < off + xs.length
    · rw [if_pos (by omega), List.append_assoc, List.getElem?_append_right (by simp; omega), List.getElem?_append_left (by simp; omega)]
      congr 1; simp; omega
    · rw [if_neg (by omega), List.getElem?_append_right (by simp; omega), List.getElem?_drop]
      congr 1; simp; omega

theorem setL_left {α : Type} (l m xs : List α) (off : Nat) (h : off + xs.length ≤ l.length) : setL (l ++ m) off xs = setL l off xs ++ m := by
  apply List.ext_getElem?
  intro i
  rw [setL_get _ _ _ _ (by simp; omega)]
  by_cases h1 : i < l.length
  · rw [List.getElem?_append_left h1, List.getElem?_append_left (by rw [setL_len]; exact h1), setL_get _ _ _ _ h]
  · rw [if_neg (by omega), List.getElem?_append_right (by omega), List.getElem?_append_right (by rw [setL_len]; omega), setL_len]
theorem setL_right {α : Type} (l m xs : List α) (off : Nat) (h : off + xs.length ≤ m.length) : setL (l ++ m) (l.length + off) xs = l ++ setL m off xs := by
  apply List.ext_getElem?
  intro i
  rw [setL_get _ _ _ _ (by simp; omega)]
  by_cases h1 : i < l.length
  · rw [if_neg (by omega), List.getElem?_append_left h1, List.getElem?_append_left h1]
  · rw [List.getElem?_append_right (by omega), List.getElem?_append_right (by omega), setL_get _ _ _ _ h]
    by_cases h2 : i < l.length + off + xs.length ∧ l.length + off ≤ i
    · rw [if_pos (by omega), if_pos (by omega)]; congr 1; omega
    · rw [if_neg (by omega), if_neg (by omega)]
theorem setL_take {α : Type} (l xs : List α) (off n : Nat) (h : off + xs.length ≤ n) (hn : n ≤ l.length) : (setL l off xs).take n = setL (l.take n) off xs := by
  apply List.ext_getElem?
  intro i
  rw [setL_get _ _ _ _ (by simp; omega)]
  by_cases h1 : i < n
  · rw [List.getElem?_take_of_lt h1, setL_get _ _ _ _ (by omega), List.getElem?_take_of_lt h1]
  · rw [List.getElem?_eq_none (by rw [List.length_take, setL_len]; omega), if_neg (by omega), List.getElem?_eq_none (by simp; omega)]
theorem flatten_set {k j : Nat} {l : List CV} : ∀ {es : List (List CV)} {i : Nat} {r : List CV}, (∀ e ∈ es, e.length = k) → es[i]? = some r → j + l.length ≤ k → (es.set i (setL r j l)).flatten = setL es.flatten (i * k + j) l
  | [], i, r, _, h, _ => by simp at h
  | e :: t, 0, r, hk, h, hl => by
    simp at h
    subst h
    rw [List.set_cons_zero, List.flatten_cons, List.flatten_cons, Nat.zero_mul, Nat.zero_add, setL_left _ _ _ _ (by rw [hk e (by simp)]; exact hl)]
  | e :: t, i + 1, r, hk, h, hl => by
    simp at h
    have he : e.length = k := hk e (by simp)
    have hk' : ∀ e ∈ t, e.length = k := fun e he => hk e (by simp [he])
    have hi := (List.getElem?_eq_some_iff.1 h).1
    have hmul : i * k + k ≤ t.length * k := by rw [← Nat.succ_mul]; exact Nat.mul_le_mul_right k hi
    rw [List.set_cons_succ, List.flatten_cons, List.flatten_cons, flatten_set hk' h hl, show (i + 1) * k + j = e.length + (i * k + j) by rw [he, Nat.add_mul]; omega, setL_right _ _ _ _ (by rw [flatten_len hk']; omega)]

theorem run_storeD {t : TypeId} {k b off : Nat} {v : Value} {cur : Array Value} {e : TypeId} (hk : sizeOfT P t = some k) (hv : v.cells.size = k) (h1 : ∀ u ∈ v.cells.toList, u.oneCell' = true) (hh : w.heap[b]? = some (.cells cur e (0, 0))) (hle : off + k ≤ cur.size) :
    ∃ w', (storeVar t ⟨b, off, none⟩ v).run P w = .ok () w' ∧ w'.heap[b]? = some (.cells (setL cur.toList off v.cells.toList).toArray e (0, 0)) ∧ w.grownBy w' (some b) := by
  have hs := run_storeCells_at (P := P) b off e v.cells.toList 0 cur w hh (by simp; omega) h1
  simp only [Nat.add_zero] at hs
  rw [← setL_eq _ _ _ (by simp; omega)] at hs
  refine ⟨_, ?_, setRow_heap w b cur _ e _ hh, rfl, rfl, rfl, by simp [World.setRow], fun j _ hne => ?_⟩
  · unfold storeVar
    simp only [Sem.run_bind, run_sizeT hk, Result.andThen_ok, hv, ne_eq, not_true_eq_false, if_false, hs]
  · have : b ≠ j := fun e => hne (by rw [e])
    simp [World.setRow, Array.getElem?_modify]
    intro h; exact absurd h this

/-- What an append takes in. -/
theorem src_reads (hm : Mem F w0 ι H nx w) {k : Nat} {s : SV} {ys : List (List CV)} {u : Value} (h : srcRows H k s = some ys) (hr : Rep w (owned F ι H) ι H nx s u) :
    ∃ A c xs, u = .slice A ys.length c ∧ Reads w w.heap.size k A ys.length xs ∧ (∀ e ∈ ys, e.length = k) ∧ (∀ v ∈ xs, v.oneCell' = true) ∧ ∀ (i : Nat) (c : CV) (v : Value), ys.flatten[i]? = some c → xs[i]? = some v → RepC w (owned F ι H) c v := by
  have one : ∀ {es : List (List CV)} {xs : List Value}, (∀ e ∈ es, e.length = k) → xs.length = es.length * k → (∀ (i : Nat) (c : CV) (v : Value), es.flatten[i]? = some c → xs[i]? = some v → RepC w (owned F ι H) c v) → ∀ v ∈ xs, v.oneCell' = true := by
    intro es xs hk hl hr v hv
    obtain ⟨i, hi⟩ := List.getElem?_of_mem hv
    have hlt : i < es.flatten.length := by rw [flatten_len hk, ← hl]; exact (List.getElem?_eq_some_iff.1 hi).1
    exact (hr i _ v (List.getElem?_eq_getElem hlt) hi).one
  unfold srcRows at h
  split at h
  · cases h
    rw [rep_nil hr]
    exact ⟨none, 0, [], rfl, ⟨by simp, by simp⟩, by simp, by simp, by simp⟩
  · rename_i k' es
    split at h
    · rename_i hk
      cases h
      have := Nat.eq_of_beq_eq_true hk
      subst this
      cases hr with
      | c _ _ hr => cases hr with
        | sl _ _ A c xs hkk h1 h2 hl hA hrr =>
          refine ⟨A, c, xs, rfl, ⟨hl, fun h0 => ?_⟩, hkk, one hkk hl hrr, hrr⟩
          obtain ⟨b, off, rfl, hb, _, hx⟩ := hA h0
          exact ⟨_, rfl, hb, fun j u hu => by rw [addr_add]; exact hx j u hu⟩
    · cases h
  · rename_i id
    split at h
    · rename_i e k' es hh
      split at h
      · rename_i hk
        cases h
        have := Nat.eq_of_beq_eq_true hk
        subst this
        obtain ⟨_, xs, ho, hkk, hrr⟩ := hm.heap id _ hh
        cases hr with
        | osl _ _ hx h1 h =>
          rw [h _ _ _ hh]
          cases hι : ι id with
          | none =>
            rw [hι] at ho
            rcases ho.2 with ⟨_, h0⟩ | ⟨g, cap, cur, hv, _⟩
            · have : ys = [] := List.eq_nil_of_length_eq_zero h0
              subst this
              exact ⟨none, 0, [], rfl, ⟨by simp, by simp⟩, by simp, by simp, by simp⟩
            · simp [ownVal] at hv
          | some p =>
            obtain ⟨b, c⟩ := p
            rw [hι] at ho
            exact ⟨some ⟨b, 0, none⟩, c, xs, rfl, Reads.of_own ho, hkk, one hkk ho.1 hrr, hrr⟩
      · cases h
    · cases h
  · cases h

theorem own_form {base e k n : Nat} {v : Value} {xs : List Value} (h : w.ownsRow base e k v n xs) : ∃ p, v = ownVal p n ∧ ∀ b c, p = some (b, c) → v.ownBlock = some b := by
  rcases h.2 with ⟨rfl, rfl⟩ | ⟨g, cap, cur, rfl, _⟩
  · exact ⟨none, rfl, fun b c h => by cases h⟩
  · exact ⟨some (g, cap), rfl, fun b c h => by cases h; rfl⟩

/-- An append to a row of the call's own. -/
theorem step_append (hm : Mem F w0 ι H nx w) {id e k : Nat} {es ys : List (List CV)} (hh : look H id = some (.row e k es)) {p' : Option (Nat × Nat)} {zs : List Value} (hg : w.grownBy w' (ownVal (ι id) es.length).ownBlock)
    (hob : (ownVal p' (es.length + ys.length)).ownBlock = (ownVal (ι id) es.length).ownBlock ∨ (ownVal p' (es.length + ys.length)).ownBlock = some w.heap.size) (ho : w'.ownsRow w0.heap.size e k (ownVal p' (es.length + ys.length)) (es.length + ys.length) zs)
    (hk : ∀ r ∈ es ++ ys, r.length = k) (hr : ∀ (i : Nat) (c : CV) (v : Value), (es ++ ys).flatten[i]? = some c → zs[i]? = some v → RepC w (owned F ι H) c v) :
    Step F w0 w w' ι (upd ι nx p') H ((nx, .row e k (es ++ ys)) :: (id, .dead) :: H) nx (nx + 1) ∧
      Rep w' (owned F (upd ι nx p') ((nx, .row e k (es ++ ys)) :: (id, .dead) :: H)) (upd ι nx p') ((nx, .row e k (es ++ ys)) :: (id, .dead) :: H) (nx + 1) (.osl nx) (ownVal p' (es.length + ys.length)) := by
  have hid := (hm.heap _ _ hh).1
  have hself : look ((nx, Ob.row e k (es ++ ys)) :: (id, .dead) :: H) nx = some (.row e k (es ++ ys)) := by rw [look_cons, if_pos rfl]
  have hdead : look ((nx, Ob.row e k (es ++ ys)) :: (id, .dead) :: H) id = some .dead := by rw [look_cons, if_neg (by omega), look_cons, if_pos rfl]
  have hlook : ∀ i, i ≠ nx → i ≠ id → look ((nx, Ob.row e k (es ++ ys)) :: (id, .dead) :: H) i = look H i := fun i h1 h2 => by rw [look_cons, if_neg (Ne.symm h1), look_cons, if_neg (Ne.symm h2)]
  have hblk : ∀ b c, p' = some (b, c) → (∃ c', ι id = some (b, c')) ∨ b = w.heap.size := by
    intro b c hp
    subst hp
    rcases hob with h | h
    · cases hι : ι id with
      | none => rw [hι] at h; simp [ownVal, Value.ownBlock] at h
      | some q => obtain ⟨b', c'⟩ := q; rw [hι] at h; simp [ownVal, Value.ownBlock] at h; exact .inl ⟨c', by rw [h]⟩
    · simp [ownVal, Value.ownBlock] at h; exact .inr h
  have hrow : ∀ g, (ownVal (ι id) es.length).ownBlock = some g → ∃ c, ι id = some (g, c) := by
    intro g h
    cases hι : ι id with
    | none => rw [hι] at h; simp [ownVal, Value.ownBlock] at h
    | some q => obtain ⟨b', c'⟩ := q; rw [hι] at h; simp [ownVal, Value.ownBlock] at h; exact ⟨c', by rw [h]⟩
  have kp : Keeps w w' (owned F ι H) (owned F (upd ι nx p') ((nx, .row e k (es ++ ys)) :: (id, .dead) :: H)) := by
    refine ⟨hg.size, fun b o u hlt hno hc => (World.cell?_of_block (a := ⟨b, o, none⟩) (hg.block b hlt fun e' => ?_)).trans hc, fun b hlt h => ?_⟩
    · obtain ⟨c, hc'⟩ := hrow b e'.symm
      exact hno (.inr ⟨id, _, c, hh, rfl, hc'⟩)
    · rcases h with h | ⟨i, o1, c1, h1, h2, h3⟩
      · exact .inl h
      · by_cases e1 : i = nx
        · rw [e1, upd_self] at h3
          rcases hblk b c1 h3 with ⟨c', h⟩ | h
          · exact .inr ⟨id, _, c', hh, rfl, h⟩
          · omega
        · by_cases e2 : i = id
          · rw [e2, hdead] at h1; cases h1; cases h2
          · rw [hlook i e1 e2] at h1
            rw [upd_ne ι p' e1] at h3
            exact .inr ⟨i, o1, c1, h1, h2, h3⟩
  have sh : Shapes ι (upd ι nx p') H ((nx, .row e k (es ++ ys)) :: (id, .dead) :: H) nx (nx + 1) := by
    refine ⟨by omega, fun i cs h hx => ?_, fun i e1 k1 es1 h hx => ?_, fun i kn ag kv h hx => ?_⟩
    · by_cases e2 : i = id
      · rw [e2, hdead] at hx; cases hx
      · rw [hlook i (by omega) e2] at hx; exact ⟨upd_ne ι p' (by omega), cs, hx⟩
    · by_cases e2 : i = id
      · rw [e2, hdead] at hx; cases hx
      · rw [hlook i (by omega) e2] at hx; exact ⟨upd_ne ι p' (by omega), e1, k1, es1, hx, rfl⟩
    · by_cases e2 : i = id
      · rw [e2, hdead] at hx; cases hx
      · rw [hlook i (by omega) e2] at hx; exact ⟨upd_ne ι p' (by omega), kn, ag, kv, hx⟩
  have hlen : (es ++ ys).length = es.length + ys.length := by simp
  refine ⟨step_of (hm.below.grown hg hm.below.size fun g hg' => ?_) hm kp sh (fun i o1 h => ?_) (fun i i' o1 o2 b c1 c2 h1 l1 h2 l2 i1 i2 => ?_), .osl nx _ (by omega) (by cases p' <;> rfl) fun e' k' es' h => ?_⟩
  · obtain ⟨xs, hown, _⟩ := (hm.heap _ _ hh).2
    exact (World.ownsRow.lt hown g hg').1
  · by_cases e1 : i = nx
    · subst e1
      rw [hself] at h
      cases h
      refine ⟨by omega, zs, ?_, hk, fun i c v hc hv => (hr i c v hc hv).keep kp⟩
      rw [upd_self, hlen]; exact ho
    · by_cases e2 : i = id
      · subst e2
        rw [hdead] at h
        cases h
        exact ⟨by omega, trivial⟩
      · rw [hlook i e1 e2] at h
        obtain ⟨q1, q2⟩ := hm.heap i o1 h
        refine ⟨by omega, ?_⟩
        by_cases hl1 : o1.live = true
        · refine ob_keep q2 (upd_ne ι p' e1) (fun b' c' hι' => hg.block b' (live_lt hm h hl1 hι') (fun e' => ?_)) kp sh
          obtain ⟨c, hc'⟩ := hrow b' e'.symm
          exact e2 (hm.inj i id o1 _ b' c' c h hl1 hh rfl hι' hc')
        · cases o1 <;> simp [Ob.live] at hl1
          trivial
  · have new : ∀ j oj bb cj ck, j ≠ nx → look ((nx, Ob.row e k (es ++ ys)) :: (id, .dead) :: H) j = some oj → oj.live = true → upd ι nx p' j = some (bb, cj) → p' = some (bb, ck) → False := by
      intro j oj bb cj ck e1 hj lj ij hp
      by_cases e2 : j = id
      · rw [e2, hdead] at hj; cases hj; cases lj
      · rw [hlook j e1 e2] at hj
        rw [upd_ne ι p' e1] at ij
        rcases hblk bb ck hp with ⟨c', h⟩ | h
        · exact e2 (hm.inj j id oj _ bb cj c' hj lj hh rfl ij h)
        · have := live_lt hm hj lj ij
          omega
    by_cases e1 : i = nx
    · by_cases e1' : i' = nx
      · omega
      · rw [e1, upd_self] at i1
        exact (new i' o2 b c2 c1 e1' h2 l2 i2 i1).elim
    · by_cases e1' : i' = nx
      · rw [e1', upd_self] at i2
        exact (new i o1 b c1 c2 e1 h1 l1 i1 i2).elim
      · by_cases e2 : i = id
        · rw [e2, hdead] at h1; cases h1; cases l1
        · by_cases e2' : i' = id
          · rw [e2', hdead] at h2; cases h2; cases l2
          · rw [hlook i e1 e2] at h1
            rw [hlook i' e1' e2'] at h2
            rw [upd_ne ι p' e1] at i1
            rw [upd_ne ι p' e1'] at i2
            exact hm.inj i i' o1 o2 b c1 c2 h1 l1 h2 l2 i1 i2
  · rw [hself] at h
    cases h
    rw [upd_self, hlen]
end
end Go.Proofs.Ytfghmpfiemmbgaa
