/- The abstract walk is sound: loads, views, calls. No program in sight. -/
import Derived.Test.YtfghmpfiemmbgaaA6
namespace Go.Proofs.Ytfghmpfiemmbgaa
open Go.RowKit

section
variable {P : Program} {F : Nat → Prop} {w0 w : World} {ι : Iota} {H : List (Nat × Ob)} {nx : Nat}

theorem cell_of_cells {b : Nat} {cur : Array Value} {e : TypeId} {fr : Nat × Nat} (h : w.heap[b]? = some (.cells cur e fr)) (o : Nat) : w.cell? ⟨b, o, none⟩ = cur[o]? := by
  simp [World.cell?, h]
theorem lt_of_heap {b : Nat} {o : Obj} (h : w.heap[b]? = some o) : b < w.heap.size := by
  rcases Nat.lt_or_ge b w.heap.size with h' | h'
  · exact h'
  · rw [Array.getElem?_eq_none h'] at h; cases h

/-- The cells of a box. -/
theorem box_cells (hm : Mem F w0 ι H nx w) {id j : Nat} {cs : List SV} {v : Value} (hr : Rep w (owned F ι H) ι H nx (.bp id j) v) (hh : look H id = some (.box cs)) :
    ∃ b cur e, v = .pointer (some ⟨b, j, none⟩) ∧ w.heap[b]? = some (.cells cur e (0, 0)) ∧ RepList w (owned F ι H) ι H nx cs cur.toList ∧ (∀ s ∈ cs, s.cell = true) ∧ (∃ c, ι id = some (b, c)) ∧ w0.heap.size ≤ b := by
  cases hr with
  | bp _ _ _ hx h1 h =>
    obtain ⟨b, c, hι, rfl⟩ := h cs hh
    obtain ⟨_, b', c', cur, e, hι', hb, hcur, hsz, hcells⟩ := hm.heap id _ hh
    rw [hι] at hι'
    cases hι'
    refine ⟨b, cur, e, rfl, hcur, ⟨by simp [hsz], fun i s u hs hu => (hcells i s u hs (by simpa using hu)).2⟩, fun s hs => ?_, ⟨c, hι⟩, hb⟩
    obtain ⟨i, hi⟩ := List.getElem?_of_mem hs
    have hlt : i < cur.size := by rw [hsz]; exact (List.getElem?_eq_some_iff.1 hi).1
    exact (hcells i s _ hi (Array.getElem?_eq_getElem hlt)).1

/-- The cells of a row's element. -/
theorem row_cells (hm : Mem F w0 ι H nx w) {id e k i : Nat} {es : List (List CV)} {r : List CV} (hh : look H id = some (.row e k es)) (hi : es[i]? = some r) :
    ∃ b c xs, ι id = some (b, c) ∧ w.ownsRow w0.heap.size e k (.slice (some ⟨b, 0, none⟩) es.length c) es.length xs ∧ r.length = k ∧ (∀ j, j < k → w.cell? ⟨b, i * k + j, none⟩ = xs[i * k + j]?) ∧ i * k + k ≤ xs.length ∧
      (∀ (j : Nat) (c : CV) (v : Value), r[j]? = some c → xs[i * k + j]? = some v → RepC w (owned F ι H) c v) := by
  obtain ⟨_, xs, ho, hk, hr⟩ := hm.heap id _ hh
  have hlt := (List.getElem?_eq_some_iff.1 hi).1
  have hrk : r.length = k := hk r (List.mem_of_getElem? hi)
  cases hι : ι id with
  | none =>
    rw [hι] at ho
    rcases ho.2 with ⟨_, hn⟩ | ⟨g, cap, cur, hv, _⟩
    · omega
    · simp [ownVal] at hv
  | some p =>
    obtain ⟨b, c⟩ := p
    rw [hι] at ho
    have hle : i * k + k ≤ es.length * k := by rw [← Nat.succ_mul]; exact Nat.mul_le_mul_right k hlt
    refine ⟨b, c, xs, rfl, ho, hrk, fun j hj => World.ownsRow.cellAt ho _ (by omega), by rw [ho.1]; exact hle, fun j c v hc hv => ?_⟩
    have hj : j < k := by rw [← hrk]; exact (List.getElem?_eq_some_iff.1 hc).1
    exact hr _ c v (by rw [flatten_get hk hi hj]; exact hc) hv

theorem take_get {α : Type} (l : List α) (n i : Nat) (x : α) (h : (l.take n)[i]? = some x) : l[i]? = some x ∧ i < n := by
  rw [List.getElem?_take] at h
  split at h
  · exact ⟨h, by assumption⟩
  · cases h

theorem load_ok {t : TypeId} {u : TypeDesc} {k : Nat} {x : Operand} {a : Act} {o : Oper} {xs : List SV} {v : SV} (hm : Mem F w0 ι H nx w) (ho : o.op = .load t x) (hu : P.underlying t = some u) (hk : sizeOfT P t = some k) (hk1 : aggD u = false → k = 1)
    (hx : RepList w (owned F ι H) ι H nx xs [a.eval x]) (hp : pop P (.load k (aggD u)) H xs (· = v)) :
    Gives P o a w (fun u' w' => Below w.heap.size w w' ∧ Rep w' (owned F ι H) ι H nx v u') := by
  have key : ∀ (b off : Nat) (us : List Value) (cs : List SV), a.eval x = .pointer (some ⟨b, off, none⟩) → us.length = k → (∀ (j : Nat) (v : Value), us[j]? = some v → w.cell? ⟨b, off + j, none⟩ = some v) → RepList w (owned F ι H) ι H nx cs us → (∀ s ∈ cs, s.cell = true) → fromCells (aggD u) cs (· = v) →
      Gives P o a w (fun u' w' => Below w.heap.size w w' ∧ Rep w' (owned F ι H) ι H nx v u') := by
    intro b off us cs he hl hc hr hcell hf
    obtain ⟨y, hrun, hy⟩ := run_loadD (P := P) (w := w) hu hk hk1 hl hc
    refine gives_value (u := y) (w' := w) ?_ ⟨Below.refl _ _, fromCells_rep hf hr hcell hy⟩
    simp [execOp, ho, Instr.loadAt, Instr.sureAddr, he, hrun]
  unfold pop at hp
  dsimp only at hp
  split at hp
  · rename_i id j
    obtain ⟨y, e, hy⟩ := replist_one hx
    simp at e
    split at hp
    · rename_i cs hh
      obtain ⟨hle, hf⟩ := chk_iff.1 hp
      rw [Nat.ble_eq] at hle
      obtain ⟨b, cur, e', hv, hcur, hrl, hcell, _⟩ := box_cells hm hy hh
      have hcl : cs.length = cur.size := by simpa using hrl.1
      refine key b j _ _ (e.trans hv) ?_ ?_ (replist_sub hrl j k) (fun s hs => hcell s (List.mem_of_mem_drop (List.mem_of_mem_take hs))) hf
      · simp; omega
      · intro i v hv
        obtain ⟨h1, _⟩ := take_get _ _ _ _ hv
        rw [List.getElem?_drop] at h1
        rw [cell_of_cells hcur]; simpa using h1
    · exact hp.elim
  · rename_i cs
    obtain ⟨y, e, hy⟩ := replist_one hx
    simp at e
    obtain ⟨hle, hf⟩ := chk_iff.1 hp
    rw [Nat.ble_eq] at hle
    cases hy with
    | rp _ b off us hl hb ho' hcell hr =>
      refine key b off (us.take k) _ e ?_ (fun j v hv => hcell j v (take_get _ _ _ _ hv).1) (replist_map_c ?_ fun i c v hc hv => hr i c v (take_get _ _ _ _ hc).1 (take_get _ _ _ _ hv).1) (cells_map_c _) hf
      · simp; omega
      · simp [hl]
  · rename_i id k' i j
    obtain ⟨y, e, hy⟩ := replist_one hx
    simp at e
    split at hp
    · rename_i e' k'' es hh
      obtain ⟨hbq, hi, hf⟩ := chk_iff.1 hp
      simp only [Bool.and_eq_true, Nat.beq_eq, Nat.ble_eq] at hbq
      obtain ⟨rfl, hle⟩ := hbq
      have hi' := List.getElem?_eq_getElem hi
      have hf := hf _ hi'
      generalize es[i] = r at hf hi'
      obtain ⟨b, c, us, hι, hown, hrk, hcell, hxs, hrep⟩ := row_cells hm hh hi'
      cases hy with
      | ep _ _ _ _ _ hx1 h1 h =>
        obtain ⟨b', c', hι', hv⟩ := h _ _ _ hh
        rw [hι] at hι'
        cases hι'
        refine key b (i * k' + j) ((us.drop (i * k' + j)).take k) _ (e.trans hv) ?_ ?_ (replist_map_c ?_ fun n c v hc hv => ?_) (cells_map_c _) hf
        · simp; omega
        · intro n v hn
          obtain ⟨h1, h2⟩ := take_get _ _ _ _ hn
          rw [List.getElem?_drop] at h1
          rw [Nat.add_assoc, hcell (j + n) (by omega), ← Nat.add_assoc]; exact h1
        · simp; omega
        · obtain ⟨h1, _⟩ := take_get _ _ _ _ hc
          obtain ⟨h2, _⟩ := take_get _ _ _ _ hv
          rw [List.getElem?_drop] at h1 h2
          exact hrep (j + n) c v h1 (by rw [← Nat.add_assoc]; exact h2)
    · exact hp.elim
  · exact hp.elim
end
end Go.Proofs.Ytfghmpfiemmbgaa
