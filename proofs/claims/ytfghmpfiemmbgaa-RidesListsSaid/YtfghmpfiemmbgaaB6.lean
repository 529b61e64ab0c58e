/- The abstract walk is sound: a region in any order that its edges allow. Which orders matter. No program in sight. -/
import Derived.Test.YtfghmpfiemmbgaaB5
namespace Go.Proofs.Ytfghmpfiemmbgaa
open Go.RowKit

/-! ### what must be ordered -/
def IOp.hfree : IOp → Bool
  | .mov | .pick | .build _ _ | .buildSl _ _ | .bin _ _ _ | .cmp _ | .eqb _ | .eqa _ _ | .not | .neg _ | .conv _ | .fn _ | .slice _ _ _ | .field _ _ _ | .extract _ | .min | .max => true
  | _ => false
def usesO : List Operand → List Nat
  | [] => []
  | .tmp t :: r => t :: usesO r
  | _ :: r => usesO r
def Opn.uses (o : Opn) : List Nat := match o.guard with
  | some (t, _) => t :: usesO o.args
  | none => usesO o.args
def maskE (acc : List Nat) : List Edge → Nat → Nat
  | [], s => s
  | e :: r, s => maskE acc r (if Region.binds .any e then s ||| 2 ^ e.on ||| acc.getD e.on 0 else s)
def masksF : List Oper → List Nat → List Nat
  | [], acc => acc
  | o :: r, acc => masksF r (acc ++ [maskE acc o.after.toList 0])
def needs (oi oj : Opn) : Bool :=
  (match oi.dst with
    | some t => oj.uses.elem t || oj.dst == some t
    | none => false) ||
  (match oj.dst with
    | some t => oi.uses.elem t
    | none => false) ||
  (oi.op.eff && !oj.op.hfree) || (oj.op.eff && !oi.op.hfree)
def pairsJ (ms : List Nat) (ios : List Opn) (j : Nat) (oj : Opn) : Bool :=
  (List.range j).all fun i => match ios[i]? with
    | some oi => !needs oi oj || (ms.getD j 0).testBit i
    | none => true
def IOp.det : IOp → Bool
  | .isnil _ | .lookup _ _ _ _ | .callm _ => false
  | _ => true
def orderB (ops : Array Oper) (ios : List Opn) : Bool :=
  let ms := masksF ops.toList []
  ios.all (fun o => o.op.det) && (List.range ios.length).all fun j => match ios[j]? with
    | some oj => pairsJ ms ios j oj
    | none => true
def downB (ops : Array Oper) : Bool := (List.range ops.size).all fun i => match ops[i]? with
  | some o => o.after.toList.all fun e => !Region.binds .any e || Nat.blt e.on i
  | none => true

/-- A set of operations that holds with each one those that it waits for. -/
def Shut (ops : Array Oper) (D : Nat → Prop) : Prop := ∀ i o, ops[i]? = some o → D i → ∀ e ∈ o.after.toList, Region.binds .any e = true → D e.on

theorem maskE_spec (acc : List Nat) : ∀ (l : List Edge) (s j : Nat), (maskE acc l s).testBit j = true → s.testBit j = true ∨ ∃ e ∈ l, Region.binds .any e = true ∧ (e.on = j ∨ (acc.getD e.on 0).testBit j = true)
  | [], s, j, h => .inl h
  | e :: r, s, j, h => by
    simp only [maskE] at h
    rcases maskE_spec acc r _ j h with h | ⟨e', he, hb, hj⟩
    · split at h
      · rename_i hb
        simp only [Nat.testBit_or, Bool.or_eq_true] at h
        rcases h with (h | h) | h
        · exact .inl h
        · refine .inr ⟨e, by simp, hb, .inl ?_⟩
          rw [Nat.testBit_two_pow] at h
          simpa using h
        · exact .inr ⟨e, by simp, hb, .inr h⟩
      · exact .inl h
    · exact .inr ⟨e', by simp [he], hb, hj⟩

theorem masksF_spec {ops : Array Oper} {D : Nat → Prop} (hD : Shut ops D) : ∀ (l : List Oper) (acc : List Nat), (∀ k, l[k]? = ops[acc.length + k]?) → (∀ i j, (acc.getD i 0).testBit j = true → D i → D j) → ∀ i j, ((masksF l acc).getD i 0).testBit j = true → D i → D j
  | [], acc, _, h => h
  | o :: r, acc, hl, h => by
    refine masksF_spec hD r _ (fun k => ?_) ?_
    · have := hl (k + 1)
      simp only [List.getElem?_cons_succ] at this
      rw [this]; congr 1; simp; omega
    · intro i j hij hi
      rw [List.getD_eq_getElem?_getD] at hij
      by_cases h1 : i < acc.length
      · rw [List.getElem?_append_left h1, ← List.getD_eq_getElem?_getD] at hij
        exact h i j hij hi
      · by_cases h2 : i = acc.length
        · subst h2
          rw [List.getElem?_append_right (Nat.le_refl _)] at hij
          simp at hij
          have ho : ops[acc.length]? = some o := by have := hl 0; simpa using this.symm
          rcases maskE_spec acc _ _ _ hij with h' | ⟨e, he, hb, hj⟩
          · simp at h'
          · have := hD _ o ho hi e (by simpa using he) hb
            rcases hj with rfl | hj
            · exact this
            · exact h _ _ hj this
        · rw [List.getElem?_eq_none (by simp; omega)] at hij
          simp at hij

theorem order_spec {ops : Array Oper} {ios : List Opn} (h : orderB ops ios = true) {D : Nat → Prop} (hD : Shut ops D) {i j : Nat} {oi oj : Opn} (hij : i < j) (hi : ios[i]? = some oi) (hj : ios[j]? = some oj) (hn : needs oi oj = true) (hd : D j) : D i := by
  unfold orderB at h
  replace h := (Bool.and_eq_true _ _).mp h |>.2
  have h1 := List.all_eq_true.1 h j (List.mem_range.2 (List.getElem?_eq_some_iff.1 hj).1)
  simp only [hj] at h1
  have h2 := List.all_eq_true.1 h1 i (List.mem_range.2 hij)
  simp only [hi, hn, Bool.not_true, Bool.false_or] at h2
  exact masksF_spec hD ops.toList [] (by simp) (by simp) j i h2 hd

/-! ### the walk in the order of the text, step by step -/
section
variable {P : Program}

theorem eop_yields {op : IOp} {s : St} {xs : List SV} {K : SV → St → Prop} (hdet : op.det = true) (h : eop P op s xs K) : ∃ v t, eop P op s xs (fun v' t' => v' = v ∧ t' = t) ∧ t.env = s.env ∧ K v t := by
  have henv : ∀ (obs : List Ob) (s : St), (s.news obs).env = s.env := fun obs s => (news_spec obs s).1
  unfold eop at *
  cases op <;> dsimp only at h ⊢
  case alloc => exact ⟨_, _, ⟨rfl, rfl⟩, rfl, h⟩
  case box =>
    split at h
    · obtain ⟨h0, h⟩ := chk_iff.1 h
      exact ⟨_, _, chk_iff.2 ⟨h0, rfl, rfl⟩, rfl, h⟩
    · exact h.elim
  case store =>
    split at h
    · split at h
      · obtain ⟨h0, h⟩ := chk_iff.1 h
        exact ⟨_, _, chk_iff.2 ⟨h0, rfl, rfl⟩, rfl, h⟩
      · exact h.elim
    · split at h
      · obtain ⟨h1, h2, hr⟩ := chk_iff.1 h
        have hk := hr _ (List.getElem?_eq_getElem h2)
        refine ⟨_, _, ?_, ?_, hk⟩
        · refine chk_iff.2 ⟨h1, h2, fun r hrr => ?_⟩
          rw [List.getElem?_eq_getElem h2] at hrr
          cases hrr
          exact ⟨rfl, rfl⟩
        · rfl
      · exact h.elim
    · exact h.elim
  case append =>
    split at h
    · split at h
      · exact ⟨_, _, ⟨h.1, rfl, rfl⟩, rfl, h.2⟩
      · exact h.elim
    · split at h
      · obtain ⟨h0, h1, h⟩ := chk_iff.1 h
        exact ⟨_, _, chk_iff.2 ⟨h0, h1, rfl, rfl⟩, rfl, h⟩
      · exact h.elim
    · exact h.elim
  case mksl =>
    split at h
    · exact ⟨_, _, ⟨h.1, rfl, rfl⟩, rfl, h.2⟩
    · exact h.elim
  case mkmap =>
    split at h
    · exact ⟨_, _, ⟨rfl, rfl⟩, rfl, h⟩
    · exact ⟨_, _, ⟨rfl, rfl⟩, rfl, h⟩
    · exact h.elim
  case mapset =>
    split at h
    · split at h
      · obtain ⟨h0, h⟩ := chk_iff.1 h
        exact ⟨_, _, chk_iff.2 ⟨h0, rfl, rfl⟩, rfl, h⟩
      · exact h.elim
    · exact h.elim
  case lookup => cases hdet
  case buildOwn =>
    split at h
    · exact ⟨_, _, ⟨rfl, rfl⟩, rfl, h⟩
    · exact h.elim
  case nilOwn => exact ⟨_, _, ⟨rfl, rfl⟩, rfl, h⟩
  case sliceF =>
    split at h
    · split at h
      · split at h
        · obtain ⟨h0, h1, h⟩ := chk_iff.1 h
          exact ⟨_, _, chk_iff.2 ⟨h0, h1, rfl, rfl⟩, rfl, h⟩
        · exact h.elim
      · exact h.elim
    · exact h.elim
  case isnil => cases hdet
  case callm => cases hdet
  case callo =>
    obtain ⟨ha, S, hS, x, hp, hl, hr, hn⟩ := h
    obtain ⟨u, h1, h2⟩ := norm_yields hn
    refine ⟨u, _, ?_, ?_, h2⟩
    · exact ⟨ha, S, hS, x, hp, hl, hr, norm_mono (fun v hv => ⟨hv, rfl⟩) h1⟩
    · exact henv _ _
  all_goals exact h.elim

/-- What one operation does to the abstract state. -/
def Goes (P : Program) (o : Opn) (s s' : St) : Prop :=
  (∃ v, ((o.guard = none ∨ ∃ t b, o.guard = some (t, b) ∧ look s.env t = some (.c (.bool b))) ∧ ∃ xs, evalL s.env o.args = some xs ∧
      ((o.op.eff = false ∧ pop P o.op s.heap xs (· = v) ∧ s' = s.set o.dst v) ∨ (o.op.eff = true ∧ ∃ t, t.env = s.env ∧ eop P o.op s xs (fun v' t' => v' = v ∧ t' = t) ∧ s' = t.set o.dst v)))) ∨
  (∃ t b, o.guard = some (t, b) ∧ (look s.env t = some (.c (.bool (!b))) ∨ look s.env t = some .und) ∧ s' = s.set o.dst .und)

theorem opV_goes {o : Opn} {s : St} {K : St → Prop} (hdet : o.op.det = true) (hg : o.guard = none ∨ ∃ t b, o.guard = some (t, b) ∧ look s.env t = some (.c (.bool b))) (h : opV P o s K) : ∃ s', Goes P o s s' ∧ K s' := by
  unfold opV at h
  split at h
  · exact h.elim
  · rename_i xs hxs
    split at h
    · rename_i he
      obtain ⟨v, t, h1, h2, h3⟩ := eop_yields hdet h
      rw [setK_eq] at h3
      exact ⟨_, .inl ⟨v, hg, xs, hxs, .inr ⟨he, t, h2, h1, rfl⟩⟩, h3⟩
    · rename_i he
      obtain ⟨v, h1, h2⟩ := pop_yields h
      rw [setK_eq] at h2
      exact ⟨_, .inl ⟨v, hg, xs, hxs, .inl ⟨he, h1, rfl⟩⟩, h2⟩

theorem opsV_trace : ∀ (ios : List Opn) (K : St → Prop) (s : St), ios.all (fun o => o.op.det) = true → opsV P ios K s → ∃ S : Nat → St, S 0 = s ∧ K (S ios.length) ∧ ∀ i o, ios[i]? = some o → Goes P o (S i) (S (i + 1))
  | [], K, s, _, h => ⟨fun _ => s, rfl, h, fun i o h => by simp at h⟩
  | o :: r, K, s, hd, h => by
    simp only [List.all_cons, Bool.and_eq_true] at hd
    obtain ⟨hd1, hd2⟩ := hd
    have cont : ∀ s', Goes P o s s' → opsV P r K s' → ∃ S : Nat → St, S 0 = s ∧ K (S (o :: r).length) ∧ ∀ i x, (o :: r)[i]? = some x → Goes P x (S i) (S (i + 1)) := by
      intro s' h1 h2
      obtain ⟨S, hS0, hSK, hSs⟩ := opsV_trace r K s' hd2 h2
      refine ⟨fun i => match i with | 0 => s | i + 1 => S i, rfl, hSK, fun i x hx => ?_⟩
      cases i with
      | zero => simp at hx; subst hx; show Goes P o s (S 0); rw [hS0]; exact h1
      | succ i => exact hSs i x (by simpa using hx)
    simp only [opsV] at h
    split at h
    · rename_i hg
      obtain ⟨s', h1, h2⟩ := opV_goes hd1 (.inl hg) h
      exact cont s' h1 h2
    · rename_i t b hg
      split at h
      · rename_i hlk
        cases b <;> dsimp only at h
        · rw [setK_eq] at h
          exact cont _ (.inr ⟨t, false, hg, .inl hlk, rfl⟩) h
        · obtain ⟨s', h1, h2⟩ := opV_goes hd1 (.inr ⟨t, true, hg, hlk⟩) h
          exact cont s' h1 h2
      · rename_i hlk
        cases b <;> dsimp only at h
        · obtain ⟨s', h1, h2⟩ := opV_goes hd1 (.inr ⟨t, false, hg, hlk⟩) h
          exact cont s' h1 h2
        · rw [setK_eq] at h
          exact cont _ (.inr ⟨t, true, hg, .inl hlk, rfl⟩) h
      · rename_i hlk
        rw [setK_eq] at h
        exact cont _ (.inr ⟨t, b, hg, .inr hlk, rfl⟩) h
      · exact h.elim
end
end Go.Proofs.Ytfghmpfiemmbgaa
