/- The abstract walk is sound: cells written. No program in sight. -/
import Derived.Test.YtfghmpfiemmbgaaA9
import Derived.Laws.Tables
namespace Go.Proofs.Ytfghmpfiemmbgaa
open Go.RowKit

theorem setL_nil {α : Type} (l : List α) (off : Nat) : setL l off [] = l := by cases l <;> cases off <;> rfl
theorem setL_cons {α : Type} : ∀ (l : List α) (off : Nat) (x : α) (xs : List α), setL l off (x :: xs) = setL (l.set off x) (off + 1) xs
  | [], off, x, xs => by cases off <;> cases xs <;> simp [setL]
  | c :: r, 0, x, xs => by
    cases xs with
    | nil => simp [setL, setL_nil]
    | cons y ys => simp [setL]
  | c :: r, off + 1, x, xs => by
    cases xs with
    | nil =>
      have := setL_cons r off x []
      simp only [setL, List.set_cons_succ] at this ⊢
      rw [this]
    | cons y ys =>
      have := setL_cons r off x (y :: ys)
      simp only [setL, List.set_cons_succ] at this ⊢
      rw [this]
theorem setL_len {α : Type} : ∀ (xs l : List α) (off : Nat), (setL l off xs).length = l.length
  | [], l, off => by rw [setL_nil]
  | x :: xs, l, off => by rw [setL_cons, setL_len xs]; simp
theorem setL_get {α : Type} : ∀ (xs l : List α) (off i : Nat), off + xs.length ≤ l.length → (setL l off xs)[i]? = if off ≤ i ∧ i < off + xs.length then xs[i - off]? else l[i]?
  | [], l, off, i, h => by rw [setL_nil, if_neg (by intro hh; simp only [List.length_nil] at hh; omega)]
  | x :: xs, l, off, i, h => by
    rw [setL_cons, setL_get xs _ _ _ (by simp at h ⊢; omega)]
    simp only [List.length_cons] at h ⊢
    by_cases h1 : off + 1 ≤ i ∧ i < off + 1 + xs.length
    · rw [if_pos h1, if_pos (by omega), show i - off = (i - (off + 1)) + 1 by omega]; simp
    · rw [if_neg h1]
      by_cases h2 : i = off
      · subst h2
        rw [if_pos (by omega), List.getElem?_set_self (by omega)]; simp
      · rw [if_neg (by omega), List.getElem?_set_ne (by omega)]

theorem foldl_set : ∀ (xs : List Value) (n off : Nat) (cells : Array Value), ((xs.zipIdx n).foldl (fun cs (p : Value × Nat) => cs.setIfInBounds (off + p.2) p.1) cells).toList = setL cells.toList (off + n) xs
  | [], n, off, cells => by simp [setL_nil]
  | x :: xs, n, off, cells => by
    rw [List.zipIdx_cons, List.foldl_cons, foldl_set xs, setL_cons]
    simp [Nat.add_assoc]
theorem fill_cons (place : Nat → Option (Nat × Nat)) (cells : Array Value) (i : Nat) (v : Value) (rest : List (Nat × Value)) (off size : Nat) (hp : place i = some (off, size)) (hs : v.cells.size = size) (hl : off + size ≤ cells.size) :
    Instr.fill place cells ((i, v) :: rest) = Instr.fill place (setL cells.toList off v.cells.toList).toArray rest := by
  have h2 : ¬ (off + size > cells.size) := by omega
  simp only [Instr.fill, hp, hs, ne_eq, not_true_eq_false, decide_false, Bool.false_or, decide_eq_true_eq, if_neg h2]
  congr 1
  apply Array.ext'
  have := foldl_set v.cells.toList 0 off cells
  simp only [Nat.add_zero] at this
  rw [← this, ← Array.foldl_toList]
  congr 1
  simp

section
variable {w : World} {own : Nat → Prop} {ι : Iota} {H : List (Nat × Ob)} {nx : Nat}
theorem cells_rep {s : SV} {u : Value} (h : Rep w own ι H nx s u) (hc : s.cells.all SV.cell = true) : RepList w own ι H nx s.cells u.cells.toList := by
  have one : s.cell = true → s.cells = [s] → RepList w own ι H nx s.cells u.cells.toList := by
    intro h1 h2
    rw [h2]
    have h3 := h.one h1
    have h4 : u.cells = #[u] := by cases u <;> first | rfl | (simp [Value.oneCell'] at h3)
    rw [h4]
    exact replist_mk h replist_mk0
  cases h with
  | agg cs vs hl hc' hr => exact ⟨by simpa [SV.cells, Value.cells] using hl, fun i s v hs hv => hr i s v hs (by simpa [Value.cells] using hv)⟩
  | tup ss vs hl hr => simp [SV.cells, SV.cell] at hc
  | none_ => simp [SV.cells, SV.cell] at hc
  | und => simp [SV.cells, SV.cell] at hc
  | _ => exact one rfl rfl
theorem closedL_cell : ∀ {ss : List SV} {l : List CV}, closedL [] ss = some l → ss.all SV.cell = true
  | [], l, _ => rfl
  | s :: r, l, h => by
    simp only [closedL] at h
    split at h
    · rename_i c l' h1 h2
      have : s.cell = true := by
        unfold closed1 at h1
        split at h1 <;> first | rfl | (cases h1)
      simp [this]
      simpa using closedL_cell h2
    · cases h
theorem closedL_nil : ∀ {ss : List SV} {cs : List CV} {us : List Value}, closedL [] ss = some cs → RepList w own ι H nx ss us →
    us.length = cs.length ∧ ∀ (i : Nat) (c : CV) (v : Value), cs[i]? = some c → us[i]? = some v → RepC w own c v
  | [], cs, us, hc, h => by
    simp [closedL] at hc
    subst hc
    rw [replist_nil h]
    simp
  | s :: r, cs, us, hc, h => by
    simp only [closedL] at hc
    split at hc
    · rename_i c l h1 h2
      cases hc
      obtain ⟨u, ur, rfl, hu, hur⟩ := replist_cons h
      obtain ⟨hl, ih⟩ := closedL_nil h2 hur
      refine ⟨by simp [hl], fun i c' v hc' hv => ?_⟩
      cases i with
      | zero =>
        simp at hc' hv
        subst hc'; subst hv
        unfold closed1 at h1
        split at h1
        · cases h1
          cases hu with | c _ _ hu => exact hu
        · simp [look] at h1
        · cases h1
      | succ i => exact ih i c' v (by simpa using hc') (by simpa using hv)
    · cases hc
theorem setL_rep {cs ns : List SV} {us vs : List Value} {off : Nat} (h : RepList w own ι H nx cs us) (hn : RepList w own ι H nx ns vs) (hle : off + ns.length ≤ cs.length) : RepList w own ι H nx (setL cs off ns) (setL us off vs) := by
  refine ⟨by rw [setL_len, setL_len, h.1], fun i s v hs hv => ?_⟩
  have h1 := h.1
  have h2 := hn.1
  rw [setL_get _ _ _ _ hle] at hs
  rw [setL_get _ _ _ _ (by omega)] at hv
  split at hs
  · rw [if_pos (by omega)] at hv
    exact hn.2 _ s v hs hv
  · rw [if_neg (by omega)] at hv
    exact h.2 _ s v hs hv
theorem setL_mem {α : Type} {cs ns : List α} {off : Nat} {s : α} (h : s ∈ setL cs off ns) (hle : off + ns.length ≤ cs.length) : s ∈ cs ∨ s ∈ ns := by
  obtain ⟨i, hi⟩ := List.getElem?_of_mem h
  rw [setL_get _ _ _ _ hle] at hi
  split at hi
  · exact .inr (List.mem_of_getElem? hi)
  · exact .inl (List.mem_of_getElem? hi)

theorem fill_ok {places : List (Nat × Nat)} (f : Operand → Value) : ∀ {ps : List (Nat × Operand)} {qs : List (Nat × Nat)} {cs xs rs : List SV} {cells : Array Value},
    partsOf places ps = some qs → RepList w own ι H nx cs cells.toList → (∀ s ∈ cs, s.cell = true) → RepList w own ι H nx xs (ps.map fun p => f p.2) → fillL cs qs xs = some rs →
    ∃ out : Array Value, Instr.fill (places[·]?) cells (ps.map fun p => (p.1, f p.2)) = some out ∧ RepList w own ι H nx rs out.toList ∧ ∀ s ∈ rs, s.cell = true
  | [], qs, cs, xs, rs, cells, hp, hc, hcell, hx, hf => by
    simp [partsOf] at hp
    subst hp
    cases xs with
    | nil => simp [fillL] at hf; subst hf; exact ⟨cells, rfl, hc, hcell⟩
    | cons x r => simp [fillL] at hf
  | p :: ps, qs, cs, xs, rs, cells, hp, hc, hcell, hx, hf => by
    simp only [partsOf] at hp
    split at hp
    · rename_i q l hq hl
      cases hp
      obtain ⟨off, k⟩ := q
      cases xs with
      | nil => simp [fillL] at hf
      | cons x xs =>
        simp only [fillL] at hf
        split at hf
        · rename_i hb
          simp only [Bool.and_eq_true, Nat.beq_eq, Nat.ble_eq] at hb
          obtain ⟨h1, h2, h3⟩ := hb
          obtain ⟨u, us, e, hu, hus⟩ := replist_cons hx
          simp only [List.map_cons, List.cons.injEq] at e
          obtain ⟨e1, e2⟩ := e
          subst e1; subst e2
          have hcr := cells_rep hu h3
          have hsz : (f p.2).cells.size = k := by have := hcr.1; simp at this; omega
          have hcl : cs.length = cells.size := by simpa using hc.1
          rw [List.map_cons, fill_cons _ _ _ _ _ off k hq hsz (by omega)]
          exact fill_ok f hl (by simpa using setL_rep hc hcr (by omega)) (fun s hs => (setL_mem hs (by omega)).elim (hcell s) fun h => List.all_eq_true.1 h3 s h) hus hf
        · cases hf
    · cases hp

theorem setL_append {α : Type} : ∀ (xs ys l : List α) (off : Nat), setL (setL l off xs) (off + xs.length) ys = setL l off (xs ++ ys)
  | [], ys, l, off => by simp [setL_nil]
  | x :: xs, ys, l, off => by
    rw [List.cons_append, setL_cons, setL_cons, ← setL_append xs ys, List.length_cons, show off + 1 + xs.length = off + (xs.length + 1) by omega]
theorem setL_all {α : Type} (xs l : List α) (h : xs.length = l.length) : setL l 0 xs = xs := by
  apply List.ext_getElem?
  intro i
  rw [setL_get _ _ _ _ (by omega)]
  split
  · simp
  · rw [List.getElem?_eq_none (by omega), List.getElem?_eq_none (by omega)]
theorem flat_len (k : Nat) (f : Operand → Value) : ∀ (ps : List (Nat × Operand)), (∀ p ∈ ps, (f p.2).cells.size = k) → (ps.flatMap fun p => (f p.2).cells.toList).length = ps.length * k
  | [], _ => by simp
  | p :: ps, h => by
    rw [List.flatMap_cons, List.length_append, flat_len k f ps (fun p hp => h p (by simp [hp])), Array.length_toList, h p (by simp), List.length_cons, Nat.add_mul]; omega
theorem fill_rows (k : Nat) (f : Operand → Value) : ∀ (ps : List (Nat × Operand)) (n : Nat) (cells : Array Value), inOrder n ps = true → (∀ p ∈ ps, (f p.2).cells.size = k) → n * k + ps.length * k ≤ cells.size →
    Instr.fill (fun i => some (i * k, k)) cells (ps.map fun p => (p.1, f p.2)) = some (setL cells.toList (n * k) (ps.flatMap fun p => (f p.2).cells.toList)).toArray
  | [], n, cells, _, _, _ => by simp [Instr.fill, setL_nil]
  | p :: ps, n, cells, ho, hk, hl => by
    simp only [inOrder, Bool.and_eq_true, Nat.beq_eq] at ho
    obtain ⟨h1, h2⟩ := ho
    have hpk := hk p (by simp)
    simp only [List.length_cons, Nat.add_mul, Nat.one_mul] at hl
    rw [List.map_cons, fill_cons _ _ _ _ _ (n * k) k (by simp [h1]) hpk (by omega), fill_rows k f ps (n + 1) _ h2 (fun p hp => hk p (by simp [hp])) (by simp [setL_len, Nat.add_mul]; omega), List.flatMap_cons]
    have : (n + 1) * k = n * k + (f p.2).cells.toList.length := by rw [Array.length_toList, hpk, Nat.add_mul]; omega
    rw [this]
    dsimp only
    rw [setL_append]
theorem run_buildSlice {P : Program} {t e : TypeId} {i : TypeInfo} {z : Value} {n : Nat} {parts : Array (Nat × Value)} {out : Array Value} (hu : P.underlying t = some (.slice e)) (hi : P.info? e = some i) (hz : i.zero = some z) (hn : n * i.size ≤ 16777216)
    (hf : ∀ cells : Array Value, cells.size = n * i.size → Instr.fill (fun j => some (j * i.size, i.size)) cells parts.toList = some out) (w : World) :
    (Instr.buildSlice t n parts).run P w = .ok (.slice (some ⟨w.heap.size, 0, none⟩) n n) (w.alloc (.cells out e)) := by
  have hs : (sizeOf e).run P w = .ok i.size w := by simp [sizeOf, typeInfo, hi]
  have hzv : (zeroValue e).run P w = .ok z w := by simp [zeroValue, typeInfo, hi, hz]
  have h24 : ¬ (n * i.size > 2 ^ 24) := by omega
  unfold Instr.buildSlice
  simp only [Sem.run_bind, run_underlying hu, Result.andThen_ok, hs, Sem.run_ite, if_neg h24, Sem.run_pure]
  by_cases h0 : n * i.size = 0
  · simp only [h0, if_true]
    have := hf ((Array.range 0).map (#[][· % (#[] : Array Value).size]!)) (by simp [h0])
    simp only [this, Sem.run_bind, Result.andThen_ok, Sem.run_pure, newRow, newObj, Sem.run]
    rfl
  · simp only [if_neg h0, hzv, Result.andThen_ok]
    have := hf ((Array.range (n * i.size)).map (z.cells[· % z.cells.size]!)) (by simp)
    simp only [this, Sem.run_bind, Result.andThen_ok, Sem.run_pure, newRow, newObj, Sem.run]
    rfl

/-- Rows out of closed values. -/
theorem rows_rep {k : Nat} : ∀ {xs : List SV} {us : List Value} {es : List (List CV)}, rowsL k xs = some es → RepList w own ι H nx xs us → es.length = us.length ∧ (∀ e ∈ es, e.length = k) ∧ (∀ u ∈ us, u.cells.size = k) ∧
    ∀ (i : Nat) (c : CV) (v : Value), es.flatten[i]? = some c → (us.flatMap (·.cells.toList))[i]? = some v → RepC w own c v
  | [], us, es, h, hr => by
    simp [rowsL] at h
    subst h
    rw [replist_nil hr]
    simp
  | x :: xs, us, es, h, hr => by
    simp only [rowsL] at h
    split at h
    · rename_i l t hl ht
      split at h
      · rename_i hk
        cases h
        obtain ⟨u, ur, rfl, hu, hur⟩ := replist_cons hr
        obtain ⟨i1, i2, i3, i4⟩ := rows_rep ht hur
        have hk' : l.length = k := Nat.eq_of_beq_eq_true hk
        have hcl := closedL_cell hl
        have hcr := cells_rep hu hcl
        obtain ⟨j1, j2⟩ := closedL_nil hl hcr
        refine ⟨by simp [i1], fun e he => ?_, fun u' hu' => ?_, fun i c v hc hv => ?_⟩
        · rcases List.mem_cons.1 he with rfl | he
          · exact hk'
          · exact i2 e he
        · rcases List.mem_cons.1 hu' with rfl | hu'
          · have := j1; simp at this; omega
          · exact i3 u' hu'
        · rw [List.flatten_cons] at hc
          rw [List.flatMap_cons] at hv
          by_cases hlt : i < l.length
          · rw [List.getElem?_append_left hlt] at hc
            rw [List.getElem?_append_left (by omega)] at hv
            exact j2 i c v hc hv
          · rw [List.getElem?_append_right (by omega)] at hc hv
            rw [j1] at hv
            exact i4 _ c v hc hv
      · cases h
    · cases h

theorem constC_rep {v : Value} (h : v.oneCell' = true) : RepC w own (constC v) v := by
  unfold constC
  split
  · exact .int _ _
  · exact .bool _
  · exact .nil
  · exact .raw v h
theorem zeros_rep {P : Program} {t : TypeId} {z : List CV} (h : zerosOf P t = some z) : ∃ i zv, P.info? t = some i ∧ i.zero = some zv ∧ z.length = zv.cells.size ∧ RepList w own ι H nx (z.map .c) zv.cells.toList ∧
    ∀ (i : Nat) (c : CV) (v : Value), z[i]? = some c → zv.cells.toList[i]? = some v → RepC w own c v := by
  unfold zerosOf at h
  split at h
  · rename_i i hi
    split at h
    · rename_i zv hz
      split at h
      · rename_i hall
        cases h
        have key : ∀ (i : Nat) (c : CV) (v : Value), (zv.cells.toList.map constC)[i]? = some c → zv.cells.toList[i]? = some v → RepC w own c v := by
          intro i c v hc hv
          rw [List.getElem?_map, hv] at hc
          cases hc
          exact constC_rep (List.all_eq_true.1 hall v (List.mem_of_getElem? hv))
        exact ⟨i, zv, hi, hz, by simp, replist_map_c (by simp) key, key⟩
      · cases h
    · cases h
  · cases h
end
end Go.Proofs.Ytfghmpfiemmbgaa
