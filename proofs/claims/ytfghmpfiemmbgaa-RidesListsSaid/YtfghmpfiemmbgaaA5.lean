/- The abstract walk is sound: what each quiet operation does. No program in sight. -/
import Derived.Test.YtfghmpfiemmbgaaA4
namespace Go.Proofs.Ytfghmpfiemmbgaa
open Go.RowKit

theorem addr_add (b off j : Nat) : (⟨b, off, none⟩ : Addr).add j = ⟨b, off + j, none⟩ := by
  unfold Addr.add; split <;> simp_all

section
variable {P : Program} {w : World}
theorem run_sizeT {t : TypeId} {k : Nat} (h : sizeOfT P t = some k) (w : World) : (sizeOf t).run P w = .ok k w := by
  unfold sizeOfT at h
  cases hi : P.info? t with
  | none => rw [hi] at h; cases h
  | some i =>
    rw [hi] at h
    simp at h
    simp [sizeOf, typeInfo, hi, h]
theorem run_aggT {t : TypeId} {u : TypeDesc} (h : P.underlying t = some u) (w : World) : (isAgg t).run P w = .ok (aggD u) w := by
  unfold isAgg
  simp only [Sem.run_bind, run_underlying h, Result.andThen_ok]
  cases u <;> rfl

theorem run_loadD {t : TypeId} {u : TypeDesc} {k b off : Nat} {us : List Value} (hu : P.underlying t = some u) (hk : sizeOfT P t = some k) (hk1 : aggD u = false → k = 1) (hl : us.length = k)
    (hc : ∀ (j : Nat) (v : Value), us[j]? = some v → w.cell? ⟨b, off + j, none⟩ = some v) :
    ∃ x, (loadVar t ⟨b, off, none⟩).run P w = .ok x w ∧ ((aggD u = true ∧ x = .agg us.toArray) ∨ (aggD u = false ∧ us = [x])) := by
  cases ha : aggD u with
  | true =>
    refine ⟨.agg us.toArray, ?_, .inl ⟨rfl, rfl⟩⟩
    have hlc := run_loadCells_list (P := P) (w := w) ⟨b, off, none⟩ us (fun j v hv => by rw [addr_add]; exact hc j v hv)
    rw [hl] at hlc
    unfold loadVar
    simp only [Sem.run_bind, run_aggT hu, Result.andThen_ok, ha, run_sizeT hk, hlc, if_true, Sem.run_pure]
  | false =>
    have h1 := hk1 ha
    subst h1
    obtain ⟨x, rfl⟩ : ∃ x, us = [x] := by
      cases us with
      | nil => simp at hl
      | cons x r => cases r with
        | nil => exact ⟨x, rfl⟩
        | cons y r => simp at hl
    refine ⟨x, ?_, .inr ⟨rfl, rfl⟩⟩
    have := hc 0 x rfl
    unfold loadVar
    simp only [Sem.run_bind, run_aggT hu, Result.andThen_ok, ha, run_load, Bool.false_eq_true, if_false]
    rw [Nat.add_zero] at this
    simp [this]
end

/-- The operation yields a value in a world of which R holds. -/
def Gives (P : Program) (o : Oper) (a : Act) (w : World) (R : Value → World → Prop) : Prop :=
  ∀ (K : Act → World → Prop) (Q : Exit → Act → World → Prop), (∀ u w', w.drawn ≤ w'.drawn → R u w' → K (a.put o.dst u) w') → o.wp P a w K Q
theorem gives_value {P : Program} {o : Oper} {a : Act} {w w' : World} {R : Value → World → Prop} {u : Value} (h : (execOp a.eval o).run P w = .ok (.value u) w') (hr : R u w') : Gives P o a w R := by
  intro K Q hk
  unfold Oper.wp
  rw [h]
  exact hk _ _ (run_drawn _ _ _ _ h) hr
theorem gives_skip {P : Program} {o : Oper} {a : Act} {w w' : World} {R : Value → World → Prop} (h : (execOp a.eval o).run P w = .ok .skip w') (hr : R undef w') : Gives P o a w R := by
  intro K Q hk
  unfold Oper.wp
  rw [h]
  exact hk _ _ (run_drawn _ _ _ _ h) hr
theorem gives_call {P : Program} {o : Oper} {a : Act} {w : World} {R : Value → World → Prop} {f : FuncId} {args : Array Value} (h : (execOp a.eval o).run P w = .ok (.enter f args) w)
    (hc : Calls P f args w fun e w' => ∃ u, e = .returned u ∧ w.drawn ≤ w'.drawn ∧ R u w') : Gives P o a w R := by
  intro K Q hk
  unfold Oper.wp
  rw [h]
  exact hc.mono fun e w' ⟨u, he, hd, hr⟩ => by subst he; exact hk _ _ hd hr

section
variable {w : World} {own : Nat → Prop} {ι : Iota} {H : List (Nat × Ob)} {nx : Nat}
theorem replist_nil {us : List Value} (h : RepList w own ι H nx [] us) : us = [] := by
  obtain ⟨h, _⟩ := h
  exact List.eq_nil_of_length_eq_zero h.symm
theorem replist_cons {x : SV} {xs : List SV} {us : List Value} (h : RepList w own ι H nx (x :: xs) us) : ∃ u r, us = u :: r ∧ Rep w own ι H nx x u ∧ RepList w own ι H nx xs r := by
  obtain ⟨hl, h⟩ := h
  cases us with
  | nil => simp at hl
  | cons u r => exact ⟨u, r, rfl, h 0 x u rfl rfl, by simpa using hl, fun i s v hs hv => h (i + 1) s v (by simpa using hs) (by simpa using hv)⟩
theorem replist_mk {x : SV} {xs : List SV} {u : Value} {us : List Value} (h : Rep w own ι H nx x u) (hr : RepList w own ι H nx xs us) : RepList w own ι H nx (x :: xs) (u :: us) := by
  refine ⟨by simp [hr.1], fun i s v hs hv => ?_⟩
  cases i with
  | zero => simp at hs hv; subst hs; subst hv; exact h
  | succ i => exact hr.2 i s v (by simpa using hs) (by simpa using hv)
theorem replist_mk0 : RepList w own ι H nx [] [] := ⟨rfl, fun i s v hs _ => by simp at hs⟩
theorem replist_one {x : SV} {us : List Value} (h : RepList w own ι H nx [x] us) : ∃ u, us = [u] ∧ Rep w own ι H nx x u := by
  obtain ⟨u, r, rfl, h1, h2⟩ := replist_cons h
  exact ⟨u, by rw [replist_nil h2], h1⟩
theorem replist_two {x y : SV} {us : List Value} (h : RepList w own ι H nx [x, y] us) : ∃ u v, us = [u, v] ∧ Rep w own ι H nx x u ∧ Rep w own ι H nx y v := by
  obtain ⟨u, r, rfl, h1, h2⟩ := replist_cons h
  obtain ⟨v, rfl, h3⟩ := replist_one h2
  exact ⟨u, v, rfl, h1, h3⟩
theorem replist_three {x y z : SV} {us : List Value} (h : RepList w own ι H nx [x, y, z] us) : ∃ u v t, us = [u, v, t] ∧ Rep w own ι H nx x u ∧ Rep w own ι H nx y v ∧ Rep w own ι H nx z t := by
  obtain ⟨u, r, rfl, h1, h2⟩ := replist_cons h
  obtain ⟨v, t, rfl, h3, h4⟩ := replist_two h2
  exact ⟨u, v, t, rfl, h1, h3, h4⟩

theorem rep_int {k : IntKind} {n : Int} {v : Value} (h : Rep w own ι H nx (.c (.int k n)) v) : v = .int k n := by
  cases h with | c _ _ h => cases h; rfl
theorem rep_bool {b : Bool} {v : Value} (h : Rep w own ι H nx (.c (.bool b)) v) : v = .bool b := by
  cases h with | c _ _ h => cases h; rfl
theorem rep_nil {v : Value} (h : Rep w own ι H nx (.c .nil) v) : v = .slice none 0 0 := by
  cases h with | c _ _ h => cases h; rfl
theorem rep_mk_int (k : IntKind) (n : Int) : Rep w own ι H nx (.c (.int k n)) (.int k n) := .c _ _ (.int k n)
theorem rep_mk_bool (b : Bool) : Rep w own ι H nx (.c (.bool b)) (.bool b) := .c _ _ (.bool b)

theorem norm_rep {s v : SV} {u : Value} (h : norm s (· = v)) (hr : Rep w own ι H nx s u) : Rep w own ι H nx v u := by
  unfold norm at h
  split at h
  · rename_i b
    have := rep_bool hr
    subst this
    cases b
    · rw [← h.2 rfl]; exact rep_mk_bool _
    · rw [← h.1 rfl]; exact rep_mk_bool _
  · rw [← h]; exact hr
theorem spl_bool {p : Prop} {v : SV} (h : spl p (· = v)) : ∃ b : Bool, v = .c (.bool b) ∧ (b = true ↔ p) := by
  by_cases hp : p
  · exact ⟨true, (h.1 hp).symm, by simp [hp]⟩
  · exact ⟨false, (h.2 hp).symm, by simp [hp]⟩
theorem fromCells_rep {u : TypeDesc} {cs : List SV} {us : List Value} {x : Value} {v : SV} (h : fromCells (aggD u) cs (· = v)) (hr : RepList w own ι H nx cs us) (hc : ∀ s ∈ cs, s.cell = true)
    (hx : (aggD u = true ∧ x = .agg us.toArray) ∨ (aggD u = false ∧ us = [x])) : Rep w own ι H nx v x := by
  unfold fromCells at h
  rcases hx with ⟨ha, rfl⟩ | ⟨ha, rfl⟩
  · rw [ha] at h
    subst h
    exact .agg cs us hr.1 hc hr.2
  · rw [ha] at h
    cases cs with
    | nil => exact h.elim
    | cons c r =>
      obtain ⟨u, t, e, h1, _⟩ := replist_cons hr
      cases e
      exact norm_rep h h1
theorem replist_map_c {cs : List CV} {us : List Value} (hl : us.length = cs.length) (h : ∀ (i : Nat) (c : CV) (v : Value), cs[i]? = some c → us[i]? = some v → RepC w own c v) : RepList w own ι H nx (cs.map .c) us := by
  refine ⟨by simp [hl], fun i s v hs hv => ?_⟩
  rw [List.getElem?_map] at hs
  cases hc : cs[i]? with
  | none => rw [hc] at hs; cases hs
  | some c => rw [hc] at hs; cases hs; exact .c _ _ (h i c v hc hv)
theorem cells_map_c (cs : List CV) : ∀ s ∈ cs.map SV.c, s.cell = true := by
  intro s hs
  obtain ⟨c, _, rfl⟩ := List.mem_map.1 hs
  rfl
theorem replist_sub {ss : List SV} {us : List Value} (h : RepList w own ι H nx ss us) (j k : Nat) : RepList w own ι H nx ((ss.drop j).take k) ((us.drop j).take k) := by
  refine ⟨by simp [h.1], fun i s v hs hv => ?_⟩
  rw [List.getElem?_take] at hs hv
  split at hs
  · rename_i hi
    rw [if_pos hi] at hv
    rw [List.getElem?_drop] at hs hv
    exact h.2 _ s v hs hv
  · cases hs
/-- Element i of rows of k cells. -/
theorem flatten_get {es : List (List CV)} {k : Nat} (hk : ∀ e ∈ es, e.length = k) : ∀ {i : Nat} {r : List CV}, es[i]? = some r → ∀ {j : Nat}, j < k → es.flatten[i * k + j]? = r[j]? := by
  induction es with
  | nil => intro i r h; simp at h
  | cons e t ih =>
    intro i r h j hj
    have he : e.length = k := hk e (by simp)
    cases i with
    | zero =>
      simp at h; subst h
      rw [List.flatten_cons, List.getElem?_append_left (by omega)]; simp
    | succ i =>
      simp at h
      rw [List.flatten_cons, List.getElem?_append_right (by rw [he, Nat.add_mul]; omega), he, show (i + 1) * k + j - k = i * k + j by rw [Nat.add_mul]; omega]
      exact ih (fun e he => hk e (by simp [he])) h hj
theorem flatten_len {es : List (List CV)} {k : Nat} (hk : ∀ e ∈ es, e.length = k) : es.flatten.length = es.length * k := by
  induction es with
  | nil => simp
  | cons e t ih =>
    rw [List.flatten_cons, List.length_append, hk e (by simp), ih (fun e he => hk e (by simp [he])), List.length_cons, Nat.add_mul]; omega
end
end Go.Proofs.Ytfghmpfiemmbgaa
