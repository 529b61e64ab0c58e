/- The abstract walk is sound: every quiet operation. No program in sight. -/
import Derived.Test.YtfghmpfiemmbgaaA8
namespace Go.Proofs.Ytfghmpfiemmbgaa
open Go.RowKit

section
variable {P : Program} {F : Nat → Prop} {w0 w : World} {ι : Iota} {H : List (Nat × Ob)} {nx : Nat}

theorem inR_wrap {k : IntKind} {n : Int} (h : inR k n) : k.wrap n = n := by
  unfold inR at h
  split at h
  · exact IntWalk.i64_in n h
  · exact h

theorem binV_run {op : BinOp} {kd k2 : IntKind} {wr : Bool} {a b : Int} {v : SV} {t : TypeId} (hc : isCmp op = false) (hk : (isShift op || ikB k2 kd) = true) (h : binV op kd wr a b (· = v)) (w : World) :
    ∃ n, v = .c (.int kd n) ∧ (binOp op t (.int kd a) (.int k2 b)).run P w = .ok (.int kd n) w := by
  unfold binV at h
  cases op <;> dsimp only at h <;> first | (cases hc; done) | skip
  case shl =>
    obtain ⟨h0, rfl⟩ := h
    refine ⟨_, rfl, ?_⟩
    have : ¬ b < 0 := by omega
    simp [binOp, Op.shift, this, Nat.min_def]
  case shr =>
    obtain ⟨h0, rfl⟩ := h
    refine ⟨_, rfl, ?_⟩
    have : ¬ b < 0 := by omega
    simp [binOp, Op.shift, this, Nat.min_def]
  all_goals
    have hk2 : k2 = kd := ikB_eq (by simpa [isShift] using hk)
    subst hk2
  case add =>
    cases wr <;> dsimp only at h
    · obtain ⟨h1, rfl⟩ := h
      exact ⟨_, rfl, by simp [binOp, Op.intArith, inR_wrap h1]⟩
    · subst h
      exact ⟨_, rfl, by simp [binOp, Op.intArith]⟩
  case sub =>
    cases wr <;> dsimp only at h
    · obtain ⟨h1, rfl⟩ := h
      exact ⟨_, rfl, by simp [binOp, Op.intArith, inR_wrap h1]⟩
    · subst h
      exact ⟨_, rfl, by simp [binOp, Op.intArith]⟩
  case mul =>
    cases wr <;> dsimp only at h
    · obtain ⟨h1, rfl⟩ := h
      exact ⟨_, rfl, by simp [binOp, Op.intArith, inR_wrap h1]⟩
    · subst h
      exact ⟨_, rfl, by simp [binOp, Op.intArith]⟩
  case quo =>
    obtain ⟨⟨h0, h1⟩, rfl⟩ := h
    exact ⟨_, rfl, by simp [binOp, Op.intDiv, h0, inR_wrap h1]⟩
  case rem =>
    obtain ⟨h0, rfl⟩ := h
    exact ⟨_, rfl, by simp [binOp, Op.intDiv, h0]⟩
  all_goals
    subst h
    exact ⟨_, rfl, by simp [binOp, Op.intBits]⟩

theorem cmpV_run {op : BinOp} {k : IntKind} {a b : Int} {v : SV} {t : TypeId} (h : cmpV op a b (· = v)) (w : World) :
    ∃ c : Bool, v = .c (.bool c) ∧ (binOp op t (.int k a) (.int k b)).run P w = .ok (.bool c) w := by
  unfold cmpV at h
  cases op <;> dsimp only at h <;> first | (exact h.elim) | skip
  all_goals
    obtain ⟨c, rfl, hc⟩ := spl_bool h
    refine ⟨c, rfl, ?_⟩
    simp only [binOp, Op.intCmp, ne_eq, not_true_eq_false, if_false, Sem.run_pure]
    congr 2
    rw [Bool.eq_iff_iff, hc]
    simp

theorem eqGuard_int {op : BinOp} {t : TypeId} {x y : Operand} {k k' : IntKind} {a b : Int} (w : World) : (eqGuard op t x y (.int k a) (.int k' b)).run P w = .ok () w := by
  cases op <;> simp [eqGuard]
theorem eqGuard_bool {op : BinOp} {t : TypeId} {x y : Operand} {a b : Bool} (w : World) : (eqGuard op t x y (.bool a) (.bool b)).run P w = .ok () w := by
  cases op <;> simp [eqGuard]

theorem slice_run {t e : TypeId} {k : Nat} {x : Value} {lo hi : Option Value} {es : List (List CV)} {l h : Int} {own : Nat → Prop} (ht : P.underlying t = some (.slice e)) (hk : sizeOfT P e = some k) (hr : RepC w own (.sl k es) x)
    (hlo : match lo with | some v => ∃ kd, v = .int kd l | none => l = 0) (hhi : match hi with | some v => ∃ kd, v = .int kd h | none => h = es.length) (h0 : 0 ≤ l) (h1 : l ≤ h) (h2 : h ≤ es.length) :
    ∃ y, (Instr.sliceAt t x lo hi none).run P w = .ok y w ∧ RepC w own (.sl k ((es.take h.toNat).drop l.toNat)) y := by
  cases hr with
  | sl _ _ A c xs hkk hc1 hc2 hl hA hr =>
    obtain ⟨l, rfl⟩ := Int.eq_ofNat_of_zero_le h0
    obtain ⟨h, rfl⟩ := Int.eq_ofNat_of_zero_le (by omega : 0 ≤ h)
    have hlh : l ≤ h := by omega
    have hhn : h ≤ es.length := by omega
    have hb : (Instr.sliceBounds true es.length c lo hi none).run P w = .ok (l, h, c) w := by
      unfold Instr.sliceBounds Instr.sliceBound
      cases lo with
      | none =>
        cases hi with
        | none =>
          simp at hlo hhi
          subst hlo
          have : h = es.length := by omega
          subst this
          simp
        | some v =>
          obtain ⟨kd, rfl⟩ := hhi
          simp at hlo
          subst hlo
          simp [asIntOf]
          intro h'; omega
      | some u =>
        obtain ⟨kd, rfl⟩ := hlo
        cases hi with
        | none =>
          simp at hhi
          have : h = es.length := by omega
          subst this
          simp [asIntOf]
          intro h'; omega
        | some v =>
          obtain ⟨kd', rfl⟩ := hhi
          have h3 : h ≤ c := by omega
          simp [asIntOf, h3, hlh]
    have hlen : ((es.take h).drop l).length = h - l := by simp; omega
    refine ⟨.slice (if c = l then A else A.map (·.add (l * k))) (h - l) (c - l), ?_, ?_⟩
    · unfold Instr.sliceAt
      simp only [Sem.run_bind, run_underlying ht, Result.andThen_ok]
      unfold Instr.slice
      simp only [Sem.run_bind, run_underlying ht, Result.andThen_ok, hb, run_sizeT hk, Sem.run_pure]
    · have hsub : ∀ e ∈ (es.take h).drop l, e.length = k := fun e he => hkk e (List.mem_of_mem_take (List.mem_of_mem_drop he))
      have hfl : ∀ i : Nat, ((es.take h).drop l).flatten[i]? = if i < (h - l) * k then es.flatten[l * k + i]? else none := by
        intro i
        have e1 : es.flatten = (es.take l).flatten ++ ((es.take h).drop l).flatten ++ (es.drop h).flatten := by
          rw [← List.flatten_append, ← List.flatten_append]
          congr 1
          have : es.take l = (es.take h).take l := by rw [List.take_take, Nat.min_eq_left hlh]
          rw [this, List.take_append_drop, List.take_append_drop]
        have l1 : (es.take l).flatten.length = l * k := by rw [flatten_len (fun e he => hkk e (List.mem_of_mem_take he))]; congr 1; simp; omega
        have l2 : ((es.take h).drop l).flatten.length = (h - l) * k := by rw [flatten_len hsub, hlen]
        split
        · rename_i hi'
          rw [e1, List.getElem?_append_left (by rw [List.length_append, l1, l2]; omega), List.getElem?_append_right (by omega), l1]
          congr 1; omega
        · rw [List.getElem?_eq_none (by omega)]
      have hmul : h * k ≤ es.length * k := Nat.mul_le_mul_right k hhn
      have hsplit : l * k + (h - l) * k = h * k := by rw [← Nat.add_mul]; congr 1; omega
      have := RepC.sl (w := w) (own := own) k ((es.take h).drop l) (if c = l then A else A.map (·.add (l * k))) (c - l) ((xs.drop (l * k)).take ((h - l) * k)) hsub (by rw [hlen]; omega) (by omega)
        (by rw [hlen]; simp; omega) (fun hpos => ?_) (fun i cc v hc hv => ?_)
      · rw [hlen] at this; exact this
      · rw [hlen] at hpos
        obtain ⟨b, off, rfl, hb', ho, hx⟩ := hA (by omega)
        rw [if_neg (by omega)]
        refine ⟨b, off + l * k, by simp [addr_add], hb', ho, fun j u hu => ?_⟩
        obtain ⟨h1, _⟩ := take_get _ _ _ _ hu
        rw [List.getElem?_drop] at h1
        rw [Nat.add_assoc]; exact hx _ u h1
      · rw [hfl] at hc
        split at hc
        · obtain ⟨h1, _⟩ := take_get _ _ _ _ hv
          rw [List.getElem?_drop] at h1
          exact hr _ cc v hc h1
        · cases hc
end
end Go.Proofs.Ytfghmpfiemmbgaa
