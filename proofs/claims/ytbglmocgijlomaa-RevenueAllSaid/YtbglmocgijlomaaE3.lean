/- The engine. No program in sight. -/
import Derived.Test.YtbglmocgijlomaaE2
import Derived.Deep.LoopGhost
/- The abstract walk is sound: a region in any order that its edges allow. Which orders matter. No program in sight. -/
namespace Go.Proofs.Ytbglmocgijlomaa
open Go.RowKit

/-! ### what must be ordered -/
def IOp.hfree : IOp → Bool
  | .mov | .pick | .build _ _ | .buildSl _ _ | .bin _ _ _ | .cmp _ | .eqb _ | .eqa _ _ | .not | .neg _ | .conv _ | .fn _ | .slice _ _ _ | .field _ _ _ | .extract _ | .min | .max => true
  | _ => false
def usesO : List Operand → List Nat
  | [] => []
  | .tmp t :: r => t :: usesO r
  | _ :: r => usesO r
def Opn.uses (o : Opn) : List Nat := match o.guard with
  | some (t, _) => t :: usesO o.args
  | none => usesO o.args
def maskE (acc : List Nat) : List Edge → Nat → Nat
  | [], s => s
  | e :: r, s => maskE acc r (if Region.binds .any e then s ||| 2 ^ e.on ||| acc.getD e.on 0 else s)
def masksF : List Oper → List Nat → List Nat
  | [], acc => acc
  | o :: r, acc => masksF r (acc ++ [maskE acc o.after.toList 0])
def isLB : IOp → Bool
  | .loadB _ _ => true
  | _ => false
def isSE : IOp → Bool
  | .storeE _ => true
  | _ => false
/-- Operation o does not see the change that e makes. -/
def hskip (e o : IOp) : Bool := o.hfree || (isLB o && isSE e)
/-- A new box is made: what only reads of what is there does not see it. -/
def isAL : IOp → Bool
  | .alloc _ => true
  | _ => false
def isRd : IOp → Bool
  | .load _ _ | .faddr _ | .idx _ | .call _ => true
  | _ => false
def simpleE : IOp → Bool
  | .alloc _ | .store _ | .storeE _ => true
  | _ => false
def alOk (ios : List Opn) : Bool := ios.all fun o => !o.op.eff || simpleE o.op
def needs (al : Bool) (oi oj : Opn) : Bool :=
  (match oi.dst with
    | some t => oj.uses.elem t || oj.dst == some t
    | none => false) ||
  (match oj.dst with
    | some t => oi.uses.elem t
    | none => false) ||
  (oi.op.eff && !hskip oi.op oj.op) || (oj.op.eff && !(hskip oj.op oi.op || (al && (isAL oj.op && isRd oi.op))))
def pairsJ (al : Bool) (ms : List Nat) (ios : List Opn) (j : Nat) (oj : Opn) : Bool :=
  (List.range j).all fun i => match ios[i]? with
    | some oi => !needs al oi oj || (ms.getD j 0).testBit i
    | none => true
def IOp.det : IOp → Bool
  | .isnil _ | .lookup _ _ _ _ | .callm _ | .callx _ => false
  | _ => true
def orderB (ops : Array Oper) (ios : List Opn) : Bool :=
  let ms := masksF ops.toList []
  ios.all (fun o => o.op.det) && (List.range ios.length).all fun j => match ios[j]? with
    | some oj => pairsJ (alOk ios) ms ios j oj
    | none => true
def downB (ops : Array Oper) : Bool := (List.range ops.size).all fun i => match ops[i]? with
  | some o => o.after.toList.all fun e => !Region.binds .any e || Nat.blt e.on i
  | none => true

/-- A set of operations that holds with each one those that it waits for. -/
def Shut (ops : Array Oper) (D : Nat → Prop) : Prop := ∀ i o, ops[i]? = some o → D i → ∀ e ∈ o.after.toList, Region.binds .any e = true → D e.on

theorem maskE_spec (acc : List Nat) : ∀ (l : List Edge) (s j : Nat), (maskE acc l s).testBit j = true → s.testBit j = true ∨ ∃ e ∈ l, Region.binds .any e = true ∧ (e.on = j ∨ (acc.getD e.on 0).testBit j = true)
  | [], s, j, h => .inl h
  | e :: r, s, j, h => by
    simp only [maskE] at h
    rcases maskE_spec acc r _ j h with h | ⟨e', he, hb, hj⟩
    · split at h
      · rename_i hb
        simp only [Nat.testBit_or, Bool.or_eq_true] at h
        rcases h with (h | h) | h
        · exact .inl h
        · refine .inr ⟨e, by simp, hb, .inl ?_⟩
          rw [Nat.testBit_two_pow] at h
          simpa using h
        · exact .inr ⟨e, by simp, hb, .inr h⟩
      · exact .inl h
    · exact .inr ⟨e', by simp [he], hb, hj⟩

theorem masksF_spec {ops : Array Oper} {D : Nat → Prop} (hD : Shut ops D) : ∀ (l : List Oper) (acc : List Nat), (∀ k, l[k]? = ops[acc.length + k]?) → (∀ i j, (acc.getD i 0).testBit j = true → D i → D j) → ∀ i j, ((masksF l acc).getD i 0).testBit j = true → D i → D j
  | [], acc, _, h => h
  | o :: r, acc, hl, h => by
    refine masksF_spec hD r _ (fun k => ?_) ?_
    · have := hl (k + 1)
      simp only [List.getElem?_cons_succ] at this
      rw [this]; congr 1; simp; omega
    · intro i j hij hi
      rw [List.getD_eq_getElem?_getD] at hij
      by_cases h1 : i < acc.length
      · rw [List.getElem?_append_left h1, ← List.getD_eq_getElem?_getD] at hij
        exact h i j hij hi
      · by_cases h2 : i = acc.length
        · subst h2
          rw [List.getElem?_append_right (Nat.le_refl _)] at hij
          simp at hij
          have ho : ops[acc.length]? = some o := by have := hl 0; simpa using this.symm
          rcases maskE_spec acc _ _ _ hij with h' | ⟨e, he, hb, hj⟩
          · simp at h'
          · have := hD _ o ho hi e (by simpa using he) hb
            rcases hj with rfl | hj
            · exact this
            · exact h _ _ hj this
        · rw [List.getElem?_eq_none (by simp; omega)] at hij
          simp at hij

theorem order_spec {ops : Array Oper} {ios : List Opn} (h : orderB ops ios = true) {D : Nat → Prop} (hD : Shut ops D) {i j : Nat} {oi oj : Opn} (hij : i < j) (hi : ios[i]? = some oi) (hj : ios[j]? = some oj) (hn : needs (alOk ios) oi oj = true) (hd : D j) : D i := by
  unfold orderB at h
  replace h := (Bool.and_eq_true _ _).mp h |>.2
  have h1 := List.all_eq_true.1 h j (List.mem_range.2 (List.getElem?_eq_some_iff.1 hj).1)
  simp only [hj] at h1
  have h2 := List.all_eq_true.1 h1 i (List.mem_range.2 hij)
  simp only [hi, hn, Bool.not_true, Bool.false_or] at h2
  exact masksF_spec hD ops.toList [] (by simp) (by simp) j i h2 hd

/-! ### the walk in the order of the text, step by step -/
section
variable {P : Program}

theorem eop_yields {op : IOp} {s : St} {xs : List SV} {K : SV → St → Prop} (hdet : op.det = true) (h : eop P op s xs K) : ∃ v t, eop P op s xs (fun v' t' => v' = v ∧ t' = t) ∧ t.env = s.env ∧ K v t := by
  have henv : ∀ (obs : List Ob) (s : St), (s.news obs).env = s.env := fun obs s => (news_spec obs s).1
  unfold eop at *
  cases op <;> dsimp only at h ⊢
  case alloc => exact ⟨_, _, ⟨rfl, rfl⟩, rfl, h⟩
  case box =>
    split at h
    · obtain ⟨h0, h⟩ := chk_iff.1 h
      exact ⟨_, _, chk_iff.2 ⟨h0, rfl, rfl⟩, rfl, h⟩
    · exact h.elim
  case store =>
    split at h
    · split at h
      · obtain ⟨h0, h⟩ := chk_iff.1 h
        exact ⟨_, _, chk_iff.2 ⟨h0, rfl, rfl⟩, rfl, h⟩
      · exact h.elim
    · split at h
      · obtain ⟨h1, h2, hr⟩ := chk_iff.1 h
        have hk := hr _ (List.getElem?_eq_getElem h2)
        refine ⟨_, _, ?_, ?_, hk⟩
        · refine chk_iff.2 ⟨h1, h2, fun r hrr => ?_⟩
          rw [List.getElem?_eq_getElem h2] at hrr
          cases hrr
          exact ⟨rfl, rfl⟩
        · rfl
      · exact h.elim
    · exact h.elim
  case storeE =>
    split at h
    · split at h
      · obtain ⟨h1, h2, hr⟩ := chk_iff.1 h
        have hk := hr _ (List.getElem?_eq_getElem h2)
        refine ⟨_, _, ?_, ?_, hk⟩
        · refine chk_iff.2 ⟨h1, h2, fun r hrr => ?_⟩
          rw [List.getElem?_eq_getElem h2] at hrr
          cases hrr
          exact ⟨rfl, rfl⟩
        · rfl
      · exact h.elim
    · exact h.elim
  case append =>
    split at h
    · split at h
      · exact ⟨_, _, ⟨h.1, rfl, rfl⟩, rfl, h.2⟩
      · exact h.elim
    · split at h
      · obtain ⟨h0, h1, h⟩ := chk_iff.1 h
        exact ⟨_, _, chk_iff.2 ⟨h0, h1, rfl, rfl⟩, rfl, h⟩
      · exact h.elim
    · exact h.elim
  case mksl =>
    split at h
    · exact ⟨_, _, ⟨h.1, rfl, rfl⟩, rfl, h.2⟩
    · exact h.elim
  case mkmap =>
    split at h
    · exact ⟨_, _, ⟨rfl, rfl⟩, rfl, h⟩
    · exact ⟨_, _, ⟨rfl, rfl⟩, rfl, h⟩
    · exact h.elim
  case mapset =>
    split at h
    · split at h
      · obtain ⟨h0, h⟩ := chk_iff.1 h
        exact ⟨_, _, chk_iff.2 ⟨h0, rfl, rfl⟩, rfl, h⟩
      · exact h.elim
    · exact h.elim
  case lookup => cases hdet
  case buildOwn =>
    split at h
    · exact ⟨_, _, ⟨rfl, rfl⟩, rfl, h⟩
    · exact h.elim
  case nilOwn => exact ⟨_, _, ⟨rfl, rfl⟩, rfl, h⟩
  case sliceF =>
    split at h
    · split at h
      · split at h
        · obtain ⟨h0, h1, h⟩ := chk_iff.1 h
          exact ⟨_, _, chk_iff.2 ⟨h0, h1, rfl, rfl⟩, rfl, h⟩
        · exact h.elim
      · exact h.elim
    · exact h.elim
  case isnil => cases hdet
  case callm => cases hdet
  case callx => cases hdet
  case clr =>
    split at h
    · split at h
      · obtain ⟨h0, h1, h⟩ := chk_iff.1 h
        exact ⟨_, _, chk_iff.2 ⟨h0, h1, rfl, rfl⟩, rfl, h⟩
      · exact h.elim
    · exact h.elim
  case allocA => exact ⟨_, _, ⟨rfl, rfl⟩, rfl, h⟩
  case callg =>
    obtain ⟨gs, S, hS, x, hp, hg, ha, hf, hs, hn⟩ := h
    obtain ⟨u, h1, h2⟩ := norm_yields hn
    refine ⟨u, _, ?_, ?_, h2⟩
    · exact ⟨gs, S, hS, x, hp, hg, ha, hf, hs, norm_mono (fun v hv => ⟨hv, rfl⟩) h1⟩
    · exact henv _ _
  case callo =>
    obtain ⟨ha, S, hS, x, hp, hl, hr, hn⟩ := h
    obtain ⟨u, h1, h2⟩ := norm_yields hn
    refine ⟨u, _, ?_, ?_, h2⟩
    · exact ⟨ha, S, hS, x, hp, hl, hr, norm_mono (fun v hv => ⟨hv, rfl⟩) h1⟩
    · exact henv _ _
  all_goals exact h.elim

/-- What one operation does to the abstract state. -/
def Goes (P : Program) (o : Opn) (s s' : St) : Prop :=
  (∃ v, ((o.guard = none ∨ ∃ t b, o.guard = some (t, b) ∧ look s.env t = some (.c (.bool b))) ∧ ∃ xs, evalL s.env o.args = some xs ∧
      ((o.op.eff = false ∧ pop P o.op s.heap xs (· = v) ∧ s' = s.set o.dst v) ∨ (o.op.eff = true ∧ ∃ t, t.env = s.env ∧ eop P o.op s xs (fun v' t' => v' = v ∧ t' = t) ∧ s' = t.set o.dst v)))) ∨
  (∃ t b, o.guard = some (t, b) ∧ (look s.env t = some (.c (.bool (!b))) ∨ look s.env t = some .und) ∧ s' = s.set o.dst .und)

theorem opV_goes {o : Opn} {s : St} {K : St → Prop} (hdet : o.op.det = true) (hg : o.guard = none ∨ ∃ t b, o.guard = some (t, b) ∧ look s.env t = some (.c (.bool b))) (h : opV P o s K) : ∃ s', Goes P o s s' ∧ K s' := by
  unfold opV at h
  split at h
  · exact h.elim
  · rename_i xs hxs
    split at h
    · rename_i he
      obtain ⟨v, t, h1, h2, h3⟩ := eop_yields hdet h
      rw [setK_eq] at h3
      exact ⟨_, .inl ⟨v, hg, xs, hxs, .inr ⟨he, t, h2, h1, rfl⟩⟩, h3⟩
    · rename_i he
      obtain ⟨v, h1, h2⟩ := pop_yields h
      rw [setK_eq] at h2
      exact ⟨_, .inl ⟨v, hg, xs, hxs, .inl ⟨he, h1, rfl⟩⟩, h2⟩

theorem opsV_trace : ∀ (ios : List Opn) (K : St → Prop) (s : St), ios.all (fun o => o.op.det) = true → opsV P ios K s → ∃ S : Nat → St, S 0 = s ∧ K (S ios.length) ∧ ∀ i o, ios[i]? = some o → Goes P o (S i) (S (i + 1))
  | [], K, s, _, h => ⟨fun _ => s, rfl, h, fun i o h => by simp at h⟩
  | o :: r, K, s, hd, h => by
    simp only [List.all_cons, Bool.and_eq_true] at hd
    obtain ⟨hd1, hd2⟩ := hd
    have cont : ∀ s', Goes P o s s' → opsV P r K s' → ∃ S : Nat → St, S 0 = s ∧ K (S (o :: r).length) ∧ ∀ i x, (o :: r)[i]? = some x → Goes P x (S i) (S (i + 1)) := by
      intro s' h1 h2
      obtain ⟨S, hS0, hSK, hSs⟩ := opsV_trace r K s' hd2 h2
      refine ⟨fun i => match i with | 0 => s | i + 1 => S i, rfl, hSK, fun i x hx => ?_⟩
      cases i with
      | zero => simp at hx; subst hx; show Goes P o s (S 0); rw [hS0]; exact h1
      | succ i => exact hSs i x (by simpa using hx)
    simp only [opsV] at h
    split at h
    · rename_i hg
      obtain ⟨s', h1, h2⟩ := opV_goes hd1 (.inl hg) h
      exact cont s' h1 h2
    · rename_i t b hg
      split at h
      · rename_i hlk
        cases b <;> dsimp only at h
        · rw [setK_eq] at h
          exact cont _ (.inr ⟨t, false, hg, .inl hlk, rfl⟩) h
        · obtain ⟨s', h1, h2⟩ := opV_goes hd1 (.inr ⟨t, true, hg, hlk⟩) h
          exact cont s' h1 h2
      · rename_i hlk
        cases b <;> dsimp only at h
        · obtain ⟨s', h1, h2⟩ := opV_goes hd1 (.inr ⟨t, false, hg, hlk⟩) h
          exact cont s' h1 h2
        · rw [setK_eq] at h
          exact cont _ (.inr ⟨t, true, hg, .inl hlk, rfl⟩) h
      · rename_i hlk
        rw [setK_eq] at h
        exact cont _ (.inr ⟨t, b, hg, .inr hlk, rfl⟩) h
      · exact h.elim
end
end Go.Proofs.Ytbglmocgijlomaa

/- The abstract walk is sound: a region in any order. No program in sight. -/
namespace Go.Proofs.Ytbglmocgijlomaa
open Go.RowKit

section
variable {P : Program}

/-- What an operation puts into its slot. -/
def putOf (o : Opn) (s' : St) : Option (Nat × SV) :=
  match o.dst with
  | some t => match look s'.env t with
    | some v => some (t, v)
    | none => none
  | none => none

theorem goes_env {o : Opn} {s s' : St} (h : Goes P o s s') : (o.dst = none ∧ s'.env = s.env ∧ putOf o s' = none) ∨ ∃ t v, o.dst = some t ∧ s'.env = (t, v) :: s.env ∧ putOf o s' = some (t, v) := by
  have key : ∀ (r : St) (v : SV), r.env = s.env → (o.dst = none ∧ (r.set o.dst v).env = s.env ∧ putOf o (r.set o.dst v) = none) ∨ ∃ t v', o.dst = some t ∧ (r.set o.dst v).env = (t, v') :: s.env ∧ putOf o (r.set o.dst v) = some (t, v') := by
    intro r v he
    cases hd : o.dst with
    | none => exact .inl ⟨rfl, he, by simp [putOf, hd]⟩
    | some t =>
      refine .inr ⟨t, v, rfl, by simp [St.set, he], ?_⟩
      simp only [putOf, hd, St.set]
      rw [look_cons, if_pos rfl]
  rcases h with ⟨v, _, xs, _, ⟨_, _, rfl⟩ | ⟨_, t, he, _, rfl⟩⟩ | ⟨t, b, _, _, rfl⟩
  · exact key s v rfl
  · exact key t v he
  · exact key s .und rfl
theorem set_heap (s : St) (d : Option Nat) (v : SV) : (s.set d v).heap = s.heap ∧ (s.set d v).nx = s.nx := by cases d <;> exact ⟨rfl, rfl⟩

variable {ios : List Opn} {S : Nat → St}

/-- The slots once the operations of D have come up. -/
def envL (ios : List Opn) (S : Nat → St) (D : Nat → Bool) : Nat → List (Nat × SV)
  | 0 => (S 0).env
  | k + 1 => match D k, (ios[k]?).bind fun o => putOf o (S (k + 1)) with
    | true, some p => p :: envL ios S D k
    | _, _ => envL ios S D k
/-- Whether operation k changes what the call owns. -/
def effAt (ios : List Opn) (k : Nat) : Bool := match ios[k]? with
  | some o => o.op.eff
  | none => false
def heapL (ios : List Opn) (S : Nat → St) (D : Nat → Bool) : Nat → List (Nat × Ob) × Nat
  | 0 => ((S 0).heap, (S 0).nx)
  | k + 1 => match D k && effAt ios k with
    | true => ((S (k + 1)).heap, (S (k + 1)).nx)
    | false => heapL ios S D k

def wr (ios : List Opn) (k t : Nat) : Prop := ∃ o, ios[k]? = some o ∧ o.dst = some t

theorem envL_agree {D D' : Nat → Bool} {t : Nat} : ∀ (n : Nat), (∀ k, k < n → wr ios k t → D k = D' k) → look (envL ios S D n) t = look (envL ios S D' n) t
  | 0, _ => rfl
  | n + 1, h => by
    have ih := envL_agree n (fun k hk hw => h k (by omega) hw)
    simp only [envL]
    cases hp : (ios[n]?).bind fun o => putOf o (S (n + 1)) with
    | none => cases D n <;> cases D' n <;> exact ih
    | some p =>
      obtain ⟨t', v⟩ := p
      by_cases e : t' = t
      · subst e
        have hw : wr ios n t' := by
          cases ho : ios[n]? with
          | none => rw [ho] at hp; cases hp
          | some o =>
            rw [ho] at hp
            simp only [Option.bind_some, putOf] at hp
            split at hp
            · rename_i t'' hd
              split at hp
              · cases hp; exact ⟨o, ho, hd⟩
              · cases hp
            · cases hp
        rw [h n (by omega) hw]
        cases D' n
        · exact ih
        · simp only [look_cons, if_true]
      · cases D n <;> cases D' n <;> simp only [look_cons, if_neg e] <;> exact ih

theorem envL_upto (hS : ∀ i o, ios[i]? = some o → Goes P o (S i) (S (i + 1))) (i : Nat) (hi : i ≤ ios.length) : ∀ (n : Nat), n ≤ i → envL ios S (fun k => Nat.blt k i) n = (S n).env
  | 0, _ => rfl
  | n + 1, h => by
    have ih := envL_upto hS i hi n (by omega)
    have ho : ios[n]? = some ios[n] := List.getElem?_eq_getElem (by omega)
    have hb : Nat.blt n i = true := by simp [Nat.blt_eq]; omega
    simp only [envL, hb, ho, Option.bind_some]
    rcases goes_env (hS n _ ho) with ⟨_, e1, e2⟩ | ⟨t, v, _, e1, e2⟩
    · rw [e2, e1]; exact ih
    · rw [e2, e1, ih]
theorem envL_past {D : Nat → Bool} (i : Nat) (hD : ∀ k, i ≤ k → D k = false) : ∀ n, i ≤ n → envL ios S D n = envL ios S D i
  | 0, h => by have : i = 0 := by omega
               subst this; rfl
  | n + 1, h => by
    by_cases e : i = n + 1
    · subst e; rfl
    · rw [← envL_past i hD n (by omega)]
      simp only [envL, hD n (by omega)]
theorem look_upto (hS : ∀ i o, ios[i]? = some o → Goes P o (S i) (S (i + 1))) {D : Nat → Bool} {i t : Nat} (hi : i ≤ ios.length) (h : ∀ k, k < ios.length → wr ios k t → (D k = true ↔ k < i)) : look (envL ios S D ios.length) t = look (S i).env t := by
  have h1 := envL_agree (ios := ios) (S := S) (D := D) (D' := fun k => Nat.blt k i) (t := t) ios.length (fun k hk hw => by
    have := h k hk hw
    rw [Bool.eq_iff_iff, this]; simp [Nat.blt_eq])
  have h2 := envL_past (ios := ios) (S := S) (D := fun k => Nat.blt k i) i (fun k hk => by
    cases hb : Nat.blt k i with
    | false => rfl
    | true => simp [Nat.blt_eq] at hb; omega) _ hi
  rw [h1, h2, envL_upto hS i hi i (Nat.le_refl _)]

theorem goes_heap {o : Opn} {s s' : St} (h : Goes P o s s') (he : o.op.eff = false) : s'.heap = s.heap ∧ s'.nx = s.nx := by
  rcases h with ⟨v, _, xs, _, ⟨_, _, rfl⟩ | ⟨h1, _⟩⟩ | ⟨t, b, _, _, rfl⟩
  · exact set_heap _ _ _
  · rw [he] at h1; cases h1
  · exact set_heap _ _ _
theorem heapL_upto (hS : ∀ i o, ios[i]? = some o → Goes P o (S i) (S (i + 1))) {D : Nat → Bool} (i : Nat) (hi : i ≤ ios.length) (h : ∀ k, k < ios.length → effAt ios k = true → (D k = true ↔ k < i)) : heapL ios S D ios.length = ((S i).heap, (S i).nx) := by
  have low : ∀ n, n ≤ i → heapL ios S D n = ((S n).heap, (S n).nx) := by
    intro n
    induction n with
    | zero => intro _; rfl
    | succ n ih =>
      intro hn
      have ho : ios[n]? = some ios[n] := List.getElem?_eq_getElem (by omega)
      simp only [heapL]
      cases he : effAt ios n with
      | true =>
        rw [(h n (by omega) he).2 (by omega)]
        rfl
      | false =>
        have he' : ios[n].op.eff = false := by simpa [effAt, ho] using he
        obtain ⟨q1, q2⟩ := goes_heap (hS n _ ho) he'
        rw [Bool.and_false, q1, q2]
        exact ih (by omega)
  have high : ∀ n, i ≤ n → n ≤ ios.length → heapL ios S D n = heapL ios S D i := by
    intro n
    induction n with
    | zero => intro h _; have : i = 0 := by omega
              subst this; rfl
    | succ n ih =>
      intro h1 h2
      by_cases e : i = n + 1
      · subst e; rfl
      · rw [← ih (by omega) (by omega)]
        simp only [heapL]
        cases he : effAt ios n with
        | true =>
          have : D n = false := by
            cases hd : D n with
            | false => rfl
            | true => have := (h n (by omega) he).1 hd; omega
          rw [this]; rfl
        | false => rw [Bool.and_false]
  rw [high ios.length hi (Nat.le_refl _), low i (Nat.le_refl _)]
end
end Go.Proofs.Ytbglmocgijlomaa

/- The abstract walk is sound: a region in any order, the theorem. No program in sight. -/
namespace Go.Proofs.Ytbglmocgijlomaa
open Go.RowKit

section
variable {P : Program} {F : Fr} {w0 : World} {n : Nat} {ios : List Opn} {S : Nat → St} {ops : Array Oper}

theorem beq_ne {a b : Nat} (h : a ≠ b) : Nat.beq a b = false := by
  cases hb : Nat.beq a b with
  | false => rfl
  | true => exact absurd (Nat.eq_of_beq_eq_true hb) h
theorem pop_hfree {op : IOp} (h : op.hfree = true) {H H' : List (Nat × Ob)} {xs : List SV} {K : SV → Prop} (hp : pop P op H xs K) : pop P op H' xs K := by
  unfold pop at *
  cases op <;> first | (cases h; done) | exact hp
theorem eop_env {op : IOp} {s t : St} {xs : List SV} {v : SV} (hdet : op.det = true) (h : eop P op s xs (fun v' t' => v' = v ∧ t' = t)) (s2 : St) (h1 : s2.heap = s.heap) (h2 : s2.nx = s.nx) :
    eop P op s2 xs (fun v' t' => v' = v ∧ t'.heap = t.heap ∧ t'.nx = t.nx) := by
  have hnews : ∀ (obs : List Ob) (a b : St), a.heap = b.heap → a.nx = b.nx → (a.news obs).heap = (b.news obs).heap ∧ (a.news obs).nx = (b.news obs).nx := by
    intro obs
    induction obs with
    | nil => intro a b h1 h2; exact ⟨h1, h2⟩
    | cons o r ih => intro a b h1 h2; exact ih _ _ (by simp [St.new, h1, h2]) (by simp [St.new, h2])
  unfold eop at *
  rw [h1, h2]
  cases op <;> dsimp only at h ⊢
  case alloc => obtain ⟨rfl, rfl⟩ := h; exact ⟨rfl, by simp [St.new, h1, h2], by simp [St.new, h2]⟩
  case box =>
    split at h
    · obtain ⟨g, rfl, rfl⟩ := chk_iff.1 h; exact chk_iff.2 ⟨g, rfl, by simp [St.new, h1, h2], by simp [St.new, h2]⟩
    · exact h.elim
  case store =>
    split at h
    · split at h
      · rename_i hh
        obtain ⟨g, rfl, rfl⟩ := chk_iff.1 h
        exact chk_iff.2 ⟨g, rfl, by simp [St.put, h1], h2⟩
      · exact h.elim
    · split at h
      · rename_i hh1 hh2
        obtain ⟨g, g', h⟩ := chk_iff.1 h
        refine chk_iff.2 ⟨g, g', fun r hr => ?_⟩
        obtain ⟨rfl, rfl⟩ := h r hr
        exact ⟨rfl, by simp [St.put, h1], h2⟩
      · exact h.elim
    · exact h.elim
  case storeE =>
    split at h
    · split at h
      · rename_i hh1 hh2
        obtain ⟨g, g', h⟩ := chk_iff.1 h
        refine chk_iff.2 ⟨g, g', fun r hr => ?_⟩
        obtain ⟨rfl, rfl⟩ := h r hr
        exact ⟨rfl, by simp [St.put, h1], h2⟩
      · exact h.elim
    · exact h.elim
  case append =>
    split at h
    · split at h
      · rename_i hh
        obtain ⟨g, rfl, rfl⟩ := h
        exact ⟨g, rfl, by simp [St.new, h1, h2], by simp [St.new, h2]⟩
      · exact h.elim
    · split at h
      · rename_i hh1 hh2
        obtain ⟨g, g', rfl, rfl⟩ := chk_iff.1 h
        exact chk_iff.2 ⟨g, g', rfl, by simp [St.new, St.put, h1, h2], by simp [St.new, St.put, h2]⟩
      · exact h.elim
    · exact h.elim
  case mksl =>
    split at h
    · obtain ⟨g, rfl, rfl⟩ := h; exact ⟨g, rfl, by simp [St.new, h1, h2], by simp [St.new, h2]⟩
    · exact h.elim
  case mkmap =>
    split at h
    · obtain ⟨rfl, rfl⟩ := h; exact ⟨rfl, by simp [St.new, h1, h2], by simp [St.new, h2]⟩
    · obtain ⟨rfl, rfl⟩ := h; exact ⟨rfl, by simp [St.new, h1, h2], by simp [St.new, h2]⟩
    · exact h.elim
  case mapset =>
    split at h
    · split at h
      · rename_i hh1 hh2 hh3
        obtain ⟨g, rfl, rfl⟩ := chk_iff.1 h
        exact chk_iff.2 ⟨g, rfl, by simp [St.put, h1], h2⟩
      · exact h.elim
    · exact h.elim
  case lookup => cases hdet
  case buildOwn =>
    split at h
    · rename_i hh
      obtain ⟨rfl, rfl⟩ := h
      exact ⟨rfl, by simp [St.new, h1, h2], by simp [St.new, h2]⟩
    · exact h.elim
  case nilOwn => obtain ⟨rfl, rfl⟩ := h; exact ⟨rfl, by simp [St.new, h1, h2], by simp [St.new, h2]⟩
  case sliceF =>
    split at h
    · split at h
      · rename_i hh
        split at h
        · rename_i hh2
          obtain ⟨g, g', rfl, rfl⟩ := chk_iff.1 h
          exact chk_iff.2 ⟨g, g', rfl, by simp [St.put, h1], h2⟩
        · exact h.elim
      · exact h.elim
    · exact h.elim
  case isnil => cases hdet
  case callm => cases hdet
  case callx => cases hdet
  case clr =>
    split at h
    · split at h
      · rename_i hh
        obtain ⟨g, g', rfl, rfl⟩ := chk_iff.1 h
        exact chk_iff.2 ⟨g, g', rfl, by simp [St.put, h1], h2⟩
      · exact h.elim
    · exact h.elim
  case allocA => obtain ⟨rfl, rfl⟩ := h; exact ⟨rfl, by simp [St.new, h1, h2], by simp [St.new, h2]⟩
  case callg =>
    obtain ⟨gs, C, hC, x, hp, hg, ha, hf, hs, hn⟩ := h
    refine ⟨gs, C, hC, x, hp, hg, ha, hf, hs, norm_mono (fun u hu => ?_) hn⟩
    obtain ⟨q1, q2⟩ := hu
    subst q2
    obtain ⟨g1, g2⟩ := hnews (C.obs x) { s2 with heap := putsG gs (renOs (tauG gs s.nx (C.obs x).length) (C.fin x)) s.heap, nx := s.nx } { s with heap := putsG gs (renOs (tauG gs s.nx (C.obs x).length) (C.fin x)) s.heap } rfl rfl
    exact ⟨q1, g1, g2⟩
  case callo =>
    obtain ⟨ha, C, hC, x, hp, hl, hr, hn⟩ := h
    refine ⟨ha, C, hC, x, hp, hl, hr, norm_mono (fun u hu => ?_) hn⟩
    obtain ⟨q1, q2⟩ := hu
    subst q2
    obtain ⟨g1, g2⟩ := hnews (C.obs x) { s2 with heap := kills xs s.heap, nx := s.nx } { s with heap := kills xs s.heap } rfl rfl
    exact ⟨q1, g1, g2⟩
  all_goals exact h.elim

theorem rel_conv {ι : Iota} {s1 s2 : St} {a : Act} {w : World} (h : Rel F w0 n ι s1 a w) (h1 : s1.heap = s2.heap) (h2 : s1.nx = s2.nx) (he : ∀ t v, look s2.env t = some v → look s1.env t = some v) : Rel F w0 n ι s2 a w := by
  obtain ⟨e1, H1, n1⟩ := s1
  obtain ⟨e2, H2, n2⟩ := s2
  dsimp only at h1 h2
  subst h1; subst h2
  exact ⟨h.size, h.defers, h.drawn, h.mem, fun t v ht => h.env t v (he t v ht)⟩

theorem evalO_same {e1 e2 : List (Nat × SV)} {x : Operand} (h : ∀ t, x = .tmp t → look e1 t = look e2 t) : evalO e1 x = evalO e2 x := by
  cases x <;> first | rfl | exact h _ rfl
theorem evalL_same {e1 e2 : List (Nat × SV)} : ∀ {xs : List Operand}, (∀ t ∈ usesO xs, look e1 t = look e2 t) → evalL e1 xs = evalL e2 xs
  | [], _ => rfl
  | x :: r, h => by
    have h1 : evalO e1 x = evalO e2 x := evalO_same fun t e => by subst e; exact h t (by simp [usesO])
    have h2 : evalL e1 r = evalL e2 r := evalL_same fun t ht => h t (by cases x <;> simp [usesO, ht])
    simp only [evalL, h1, h2]

/-- The abstract state once the operations of D have come up. -/
def sD (ios : List Opn) (S : Nat → St) (D : Nat → Bool) : St := ⟨envL ios S D ios.length, (heapL ios S D ios.length).1, (heapL ios S D ios.length).2⟩

theorem lowIOs_get {q : Opts} : ∀ {l : List Oper} {ios : List Opn}, lowIOs P q ops l = some ios → ios.length = l.length ∧ ∀ (i : Nat) (o : Oper), l[i]? = some o → ∃ x, ios[i]? = some x ∧ lowIO P q ops o = some x
  | [], ios, h => by simp [lowIOs] at h; subst h; simp
  | o :: r, ios, h => by
    simp only [lowIOs] at h
    split at h
    · rename_i x l h1 h2
      cases h
      obtain ⟨g1, g2⟩ := lowIOs_get h2
      refine ⟨by simp [g1], fun i o' ho' => ?_⟩
      cases i with
      | zero => simp at ho'; subst ho'; exact ⟨x, rfl, h1⟩
      | succ i => exact g2 i o' (by simpa using ho')
    · cases h

theorem goes_box {o : Opn} {s s' : St} (h : Goes P o s s') (he : o.op.eff = true → isSE o.op = true) (id : Nat) (cs : List SV) : look s'.heap id = some (.box cs) ↔ look s.heap id = some (.box cs) := by
  rcases h with ⟨v, _, xs, _, ⟨_, _, rfl⟩ | ⟨h1, t, h2, h3, rfl⟩⟩ | ⟨t, b, _, _, rfl⟩
  · rw [(set_heap _ _ _).1]
  · rw [(set_heap _ _ _).1]
    have := he h1
    revert h3
    cases hop : o.op <;> rw [hop] at this <;> first | (cases this; done) | skip
    intro h3
    unfold eop at h3; dsimp only at h3
    split at h3
    · split at h3
      · rename_i id' k' i j v' hxs o1 o2 e k'' es l hh hcl
        obtain ⟨g, g', h⟩ := chk_iff.1 h3
        obtain ⟨rfl, rfl⟩ := h _ (List.getElem?_eq_getElem g')
        simp only [St.put, look_cons]
        by_cases e' : id' = id
        · subst e'
          rw [if_pos rfl, hh]
          constructor <;> intro h <;> cases h
        · rw [if_neg e']
      · exact h3.elim
    · exact h3.elim
  · rw [(set_heap _ _ _).1]

theorem box_run (hS : ∀ i o, ios[i]? = some o → Goes P o (S i) (S (i + 1))) (id : Nat) (cs : List SV) (m : Nat) : ∀ (d : Nat), m + d ≤ ios.length → (∀ k y, m ≤ k → k < m + d → ios[k]? = some y → y.op.eff = true → isSE y.op = true) → (look (S (m + d)).heap id = some (.box cs) ↔ look (S m).heap id = some (.box cs))
  | 0, _, _ => Iff.rfl
  | d + 1, h, hk => by
    have ih := box_run hS id cs m d (by omega) (fun k y h1 h2 => hk k y h1 (by omega))
    have hy : ios[m + d]? = some ios[m + d] := List.getElem?_eq_getElem (by omega)
    exact (goes_box (hS _ _ hy) (hk _ _ (by omega) (by omega) hy) id cs).trans ih

theorem init_seg {E D : Nat → Bool} (h : ∀ j k, j < k → E j = true → E k = true → D k = true → D j = true) : ∀ n, ∃ m, m ≤ n ∧ ∀ k, k < n → E k = true → (D k = true ↔ k < m)
  | 0 => ⟨0, Nat.le_refl _, fun k hk => by omega⟩
  | n + 1 => by
    obtain ⟨m, hm, hk⟩ := init_seg h n
    by_cases e : E n = true ∧ D n = true
    · refine ⟨n + 1, Nat.le_refl _, fun k hk' he => ⟨fun _ => hk', fun _ => ?_⟩⟩
      by_cases ek : k = n
      · subst ek; exact e.2
      · exact h k n (by omega) he e.1 e.2
    · refine ⟨m, by omega, fun k hk' he => ?_⟩
      by_cases ek : k = n
      · subst ek
        constructor
        · intro hd; exact absurd ⟨he, hd⟩ e
        · intro hlt; omega
      · exact hk k (by omega) he

theorem pop_loadB {op : IOp} (h : isLB op = true) {H H' : List (Nat × Ob)} {xs : List SV} {K : SV → Prop} (hb : ∀ id cs, look H id = some (.box cs) → look H' id = some (.box cs)) (hp : pop P op H xs K) : pop P op H' xs K := by
  cases op <;> first | (cases h; done) | skip
  unfold pop at *
  dsimp only at hp ⊢
  split at hp
  · split at hp
    · rename_i cs hh
      rw [hb _ _ hh]
      exact hp
    · exact hp.elim
  · exact hp
  · exact hp.elim

/-- The objects that are there have ids below the next one. -/
def Bd (s : St) : Prop := ∀ id o, look s.heap id = some o → o.live = true → id < s.nx
theorem closed1_mono {H H' : List (Nat × Ob)} (hs : ∀ id o, look H id = some o → o.live = true → look H' id = some o) {s : SV} {c : CV} (h : closed1 H s = some c) : closed1 H' s = some c := by
  unfold closed1 at *
  split at h
  · exact h
  · split at h
    · rename_i hh; rw [hs _ _ hh rfl]; exact h
    · cases h
  · cases h
theorem closedL_mono {H H' : List (Nat × Ob)} (hs : ∀ id o, look H id = some o → o.live = true → look H' id = some o) : ∀ {l : List SV} {cs : List CV}, closedL H l = some cs → closedL H' l = some cs
  | [], cs, h => h
  | s :: r, cs, h => by
    unfold closedL at *
    split at h
    · rename_i c l h1 h2
      rw [closed1_mono hs h1, closedL_mono hs h2]; exact h
    · cases h
theorem view0_mono {H H' : List (Nat × Ob)} (hs : ∀ id o, look H id = some o → o.live = true → look H' id = some o) (s : SV) : view0 H s = .none_ ∨ view0 H' s = view0 H s := by
  cases s with
  | c v => exact .inr rfl
  | rp cs => exact .inr rfl
  | osl id =>
    unfold view0
    dsimp only
    split
    · rename_i hh; rw [hs _ _ hh rfl]; exact .inr rfl
    · exact .inl rfl
  | bp id j =>
    unfold view0
    dsimp only
    split
    · rename_i cs hh
      rw [hs _ _ hh rfl]
      dsimp only
      split
      · rename_i l hl
        rw [closedL_mono hs hl]; exact .inr rfl
      · exact .inl rfl
    · exact .inl rfl
  | fn f caps => cases caps <;> exact .inr rfl
  | _ => exact .inr rfl
theorem viewL_mono {H H' : List (Nat × Ob)} (hs : ∀ id o, look H id = some o → o.live = true → look H' id = some o) : ∀ l : List SV, knownB (viewL H l) = true → viewL H' l = viewL H l
  | [], _ => rfl
  | s :: r, h => by
    rw [viewL] at h
    have hn : view0 H s ≠ .none_ := fun e => by rw [e] at h; cases h
    have hr : knownB (viewL H r) = true := by
      revert h
      cases view0 H s <;> intro h <;> first | exact h | cases h
    rw [viewL, viewL, (view0_mono hs s).resolve_left hn, viewL_mono hs r hr]
theorem known_of_cells : ∀ l : List SV, l.all SV.cell = true → knownB l = true
  | [], _ => rfl
  | s :: r, h => by
    rw [List.all_cons, Bool.and_eq_true] at h
    have ih := known_of_cells r h.2
    have := h.1
    cases s <;> first | exact ih | cases this
theorem view_mono {H H' : List (Nat × Ob)} (hs : ∀ id o, look H id = some o → o.live = true → look H' id = some o) (s : SV) : view H s = .none_ ∨ view H' s = view H s := by
  cases s with
  | agg cs =>
    unfold view
    dsimp only
    split
    · rename_i h
      rw [viewL_mono hs cs (known_of_cells _ h), h]; exact .inr rfl
    · exact .inl rfl
  | fn f caps =>
    unfold view
    dsimp only
    split
    · rename_i h
      rw [viewL_mono hs caps h, h]; exact .inr rfl
    · exact .inl rfl
  | c v => exact .inr rfl
  | rp cs => exact .inr rfl
  | osl id => exact view0_mono hs (.osl id)
  | bp id j => exact view0_mono hs (.bp id j)
  | _ => exact .inr rfl
theorem leV_mono {H H' : List (Nat × Ob)} (hs : ∀ id o, look H id = some o → o.live = true → look H' id = some o) {s a : SV} (h : leV (view H s) a) : leV (view H' s) a := by
  rcases view_mono hs s with e | e
  · rw [e] at h
    have : a = .none_ := by
      cases a <;> first | rfl | (cases h; done) | (unfold leV at h; exact absurd h (by simp [le0]))
    subst this
    unfold leV; trivial
  · rw [e]; exact h
theorem leVs_mono {H H' : List (Nat × Ob)} (hs : ∀ id o, look H id = some o → o.live = true → look H' id = some o) : ∀ {xs al : List SV}, leVs (views H xs) al → leVs (views H' xs) al
  | [], [], _ => trivial
  | [], _ :: _, h => h.elim
  | _ :: _, [], h => h.elim
  | _ :: _, _ :: _, h => ⟨leV_mono hs h.1, leVs_mono hs h.2⟩
theorem pop_mono {op : IOp} (h : isRd op = true) {H H' : List (Nat × Ob)} {xs : List SV} {K : SV → Prop} (hs : ∀ id o, look H id = some o → o.live = true → look H' id = some o) (hp : pop P op H xs K) : pop P op H' xs K := by
  cases op <;> first | (cases h; done) | skip
  · -- load
    unfold pop at *
    dsimp only at hp ⊢
    split at hp
    · split at hp
      · rename_i hh; rw [hs _ _ hh rfl]; exact hp
      · exact hp.elim
    · exact hp
    · split at hp
      · rename_i hh; rw [hs _ _ hh rfl]; exact hp
      · exact hp.elim
    · exact hp.elim
  all_goals skip
  · unfold pop at *
    dsimp only at hp ⊢
    split at hp
    · exact hp
    · split at hp
      · rename_i hh; rw [hs _ _ hh rfl]; exact hp
      · exact hp.elim
    · split at hp
      · rename_i hh; rw [hs _ _ hh rfl]; exact hp
      · exact hp.elim
    · exact hp.elim
  · unfold pop at *
    dsimp only at hp ⊢
    split at hp
    · exact hp
    · split at hp
      · rename_i hh; rw [hs _ _ hh rfl]; exact hp
      · exact hp.elim
    · exact hp.elim
  · unfold pop callV at *
    dsimp only at hp ⊢
    obtain ⟨C, hC, x, h1, h2, h3, h4⟩ := hp
    exact ⟨C, hC, x, h1, leVs_mono hs h2, h3, h4⟩
theorem bd_new {s : St} (h : Bd s) (o : Ob) : Bd (s.new o) := by
  intro id o' hl hv
  simp only [St.new, look_cons] at hl ⊢
  split at hl
  · omega
  · have := h id o' hl hv; omega
theorem bd_put {s : St} (h : Bd s) {id : Nat} {o o0 : Ob} (hl : look s.heap id = some o0) (hv : o0.live = true) : Bd (s.put id o) := by
  intro i o' hl' hv'
  simp only [St.put, look_cons] at hl' ⊢
  split at hl'
  · rename_i e; subst e; exact h _ _ hl hv
  · exact h i o' hl' hv'
theorem goes_bd {o : Opn} {s s' : St} (h : Goes P o s s') (he : o.op.eff = true → simpleE o.op = true) (hb : Bd s) : Bd s' ∧ (o.op.eff = true → isAL o.op = true → ∀ id ob, look s.heap id = some ob → ob.live = true → look s'.heap id = some ob) := by
  have hset : ∀ (t : St) (v : SV), Bd t → Bd (t.set o.dst v) := fun t v ht => by
    intro id ob hl hv
    rw [(set_heap _ _ _).1] at hl
    rw [(set_heap _ _ _).2]
    exact ht id ob hl hv
  rcases h with ⟨v, _, xs, _, ⟨h1, _, rfl⟩ | ⟨h1, t, h2, h3, rfl⟩⟩ | ⟨t, b, _, _, rfl⟩
  · exact ⟨hset _ _ hb, fun h => by rw [h1] at h; cases h⟩
  · have hsi := he h1
    revert h3
    cases hop : o.op <;> rw [hop] at hsi <;> first | (cases hsi; done) | skip
    · -- alloc
      intro h3
      unfold eop at h3; dsimp only at h3
      obtain ⟨rfl, rfl⟩ := h3
      refine ⟨hset _ _ (bd_new hb _), fun _ _ id ob hl hv => ?_⟩
      rw [(set_heap _ _ _).1]
      simp only [St.new, look_cons]
      rw [if_neg (by have := hb id ob hl hv; omega)]; exact hl
    · intro h3
      refine ⟨?_, fun _ h => by cases h⟩
      unfold eop at h3; dsimp only at h3
      split at h3
      · split at h3
        · rename_i hh
          obtain ⟨_, rfl, rfl⟩ := chk_iff.1 h3
          exact hset _ _ (bd_put hb hh rfl)
        · exact h3.elim
      · split at h3
        · rename_i hh hcl
          obtain ⟨g, g', h⟩ := chk_iff.1 h3
          obtain ⟨rfl, rfl⟩ := h _ (List.getElem?_eq_getElem g')
          exact hset _ _ (bd_put hb hh rfl)
        · exact h3.elim
      · exact h3.elim
    · intro h3
      refine ⟨?_, fun _ h => by cases h⟩
      unfold eop at h3; dsimp only at h3
      split at h3
      · split at h3
        · rename_i hh hcl
          obtain ⟨g, g', h⟩ := chk_iff.1 h3
          obtain ⟨rfl, rfl⟩ := h _ (List.getElem?_eq_getElem g')
          exact hset _ _ (bd_put hb hh rfl)
        · exact h3.elim
      · exact h3.elim
  · exact ⟨hset _ _ hb, fun h1 h => by
      intro id ob hl _
      rw [(set_heap _ _ _).1]; exact hl⟩
theorem bd_all (hS : ∀ i o, ios[i]? = some o → Goes P o (S i) (S (i + 1))) (hal : alOk ios = true) (h0 : Bd (S 0)) : ∀ j, j ≤ ios.length → Bd (S j)
  | 0, _ => h0
  | j + 1, hj => by
    have hy : ios[j]? = some ios[j] := List.getElem?_eq_getElem (by omega)
    refine (goes_bd (hS j _ hy) (fun he => ?_) (bd_all hS hal h0 j (by omega))).1
    have := List.all_eq_true.1 hal ios[j] (List.getElem_mem _)
    rw [he] at this
    simpa using this
theorem al_run (hS : ∀ i o, ios[i]? = some o → Goes P o (S i) (S (i + 1))) (hal : alOk ios = true) (h0 : Bd (S 0)) (i : Nat) : ∀ (d : Nat), i + d ≤ ios.length → (∀ k y, i ≤ k → k < i + d → ios[k]? = some y → y.op.eff = true → isAL y.op = true) → ∀ id ob, look (S i).heap id = some ob → ob.live = true → look (S (i + d)).heap id = some ob
  | 0, _, _, id, ob, h, _ => h
  | d + 1, hd, hk, id, ob, h, hv => by
    have ih := al_run hS hal h0 i d (by omega) (fun k y h1 h2 => hk k y h1 (by omega)) id ob h hv
    have hy : ios[i + d]? = some ios[i + d] := List.getElem?_eq_getElem (by omega)
    cases he : ios[i + d].op.eff with
    | false =>
      obtain ⟨q1, _⟩ := goes_heap (hS _ _ hy) he
      show look (S (i + d + 1)).heap id = _
      rw [q1]; exact ih
    | true =>
      refine (goes_bd (hS _ _ hy) (fun he => ?_) (bd_all hS hal h0 _ (by omega))).2 he (hk _ _ (by omega) (by omega) hy he) id ob ih hv
      have := List.all_eq_true.1 hal ios[i + d] (List.getElem_mem _)
      rw [he] at this
      simpa using this

theorem draw_step {q : Opts} {Q : Exit → Act → World → Prop} (hl : lowIOs P q ops ops.toList = some ios) (hord : orderB ops ios = true) (hdst : ∀ o ∈ ops.toList, dstOk n o.dst = true)
    (hS : ∀ i o, ios[i]? = some o → Goes P o (S i) (S (i + 1))) (hb0 : Bd (S 0)) {D : Nat → Bool} (hD : Shut ops (D · = true)) {i : Nat} {o : Oper} (hi : ops[i]? = some o) (hni : D i = false) (hpre : ∀ e ∈ o.after.toList, Region.binds .any e = true → D e.on = true)
    {ι : Iota} {a : Act} {w : World} (h : Rel F w0 n ι (sD ios S D) a w) {K : Act → World → Prop}
    (hK : ∀ ι' a' w', Rel F w0 n ι' (sD ios S (fun k => D k || Nat.beq k i)) a' w' → K a' w') : wpOp P ops Q i K a w := by
  obtain ⟨hlen, hget⟩ := lowIOs_get hl
  have hi' : ops.toList[i]? = some o := by simpa using hi
  obtain ⟨x, hx, hlow⟩ := hget i o hi'
  have hil : i < ios.length := (List.getElem?_eq_some_iff.1 hx).1
  obtain ⟨io, args, hlo, e1, e2, e3, hg⟩ := lowIO_spec hlow
  have hdo := hdst o (by rw [Array.mem_toList_iff]; exact Array.mem_of_getElem? hi)
  have hD' : Shut ops (fun k => (D k || Nat.beq k i) = true) := by
    intro j oj hj hdj e he hb
    simp only [Bool.or_eq_true, Nat.beq_eq] at hdj ⊢
    rcases hdj with hdj | rfl
    · exact .inl (hD j oj hj hdj e he hb)
    · rw [hi] at hj; cases hj; exact .inl (hpre e he hb)
  have before : ∀ k y, k < i → ios[k]? = some y → needs (alOk ios) y x = true → D k = true := by
    intro k y hk hy hn
    have := order_spec hord hD' hk hy hx hn (by simp)
    simp only [Bool.or_eq_true, Nat.beq_eq] at this
    rcases this with h | h
    · exact h
    · omega
  have after : ∀ k y, i < k → ios[k]? = some y → needs (alOk ios) x y = true → D k = false := by
    intro k y hk hy hn
    cases hd : D k with
    | false => rfl
    | true => have := order_spec hord hD hk hx hy hn hd; rw [hni] at this; cases this
  have hlook : ∀ t ∈ x.uses, look (sD ios S D).env t = look (S i).env t := by
    intro t ht
    refine look_upto hS (by omega) fun k hk hw => ?_
    obtain ⟨y, hy, hyd⟩ := hw
    constructor
    · intro hd
      rcases Nat.lt_trichotomy k i with h | h | h
      · exact h
      · subst h; rw [hni] at hd; cases hd
      · have := after k y h hy (by simp [needs, hyd, ht]); rw [hd] at this; cases this
    · intro hk'
      exact before k y hk' hy (by simp [needs, hyd, ht])
  have hLBe : isLB x.op = true → x.op.eff = false := by
    intro h
    cases hxo : x.op <;> rw [hxo] at h <;> first | rfl | (cases h)
  have hLBf : isLB x.op = true → x.op.hfree = false := by
    intro h
    cases hxo : x.op <;> rw [hxo] at h <;> first | rfl | (cases h)
  have hLBr : isLB x.op = true → isRd x.op = false := by
    intro h
    cases hxo : x.op <;> rw [hxo] at h <;> first | rfl | (cases h)
  have hEffr : ∀ (y : Opn), y.op.eff = true → isRd y.op = false := by
    intro y h
    cases hxo : y.op <;> rw [hxo] at h <;> first | rfl | (cases h)
  have hEff : ∀ (y : Opn), y.op.eff = true → isLB y.op = false ∧ y.op.hfree = false := by
    intro y h
    cases hxo : y.op <;> rw [hxo] at h <;> first | exact ⟨rfl, rfl⟩ | (cases h)
  have hheap : (x.op.eff = false ∧ (x.op.hfree = true ∨ (isLB x.op = true ∧ ∀ id cs, look (S i).heap id = some (.box cs) → look (sD ios S D).heap id = some (.box cs)) ∨ (isRd x.op = true ∧ ∀ id ob, look (S i).heap id = some ob → ob.live = true → look (sD ios S D).heap id = some ob))) ∨ heapL ios S D ios.length = ((S i).heap, (S i).nx) := by
    by_cases hf : x.op.hfree = true
    · refine .inl ⟨?_, .inl hf⟩
      cases hxo : x.op <;> rw [hxo] at hf <;> first | rfl | (cases hf)
    · by_cases hlb : isLB x.op = true
      · refine .inl ⟨hLBe hlb, .inr (.inl ⟨hlb, fun id cs hbx => ?_⟩)⟩
        obtain ⟨m, hm, hmk⟩ := init_seg (E := effAt ios) (D := D) (fun j k hjk hj hk hd => by
          simp only [effAt] at hj hk
          split at hj
          · rename_i oj hoj
            split at hk
            · rename_i ok hok
              refine order_spec hord hD hjk hoj hok ?_ hd
              simp [needs, hskip, hj, hk, hEff _ hk, hEff _ hj, hEffr _ hj]
            · cases hk
          · cases hj) ios.length
        have hsD : (sD ios S D).heap = (S m).heap := by
          simp only [sD, heapL_upto hS m hm fun k hk he => hmk k hk he]
        rw [hsD]
        have out : ∀ k y, ios[k]? = some y → y.op.eff = true → isSE y.op = false → (k < m ↔ k < i) := by
          intro k y hy he hse
          have hkl : k < ios.length := (List.getElem?_eq_some_iff.1 hy).1
          rw [← hmk k hkl (by simp [effAt, hy, he])]
          constructor
          · intro hd
            rcases Nat.lt_trichotomy k i with h | h | h
            · exact h
            · subst h; rw [hni] at hd; cases hd
            · have := after k _ h hy (by simp [needs, hskip, he, hse, hLBf hlb, hLBr hlb]); rw [hd] at this; cases this
          · intro hk'
            exact before k _ hk' hy (by simp [needs, hskip, he, hse, hLBf hlb])
        have between : ∀ k y, ((m ≤ k ∧ k < i) ∨ (i ≤ k ∧ k < m)) → ios[k]? = some y → y.op.eff = true → isSE y.op = true := by
          intro k y hk hy he
          cases hse : isSE y.op with
          | true => rfl
          | false => have := out k y hy he hse; omega
        rcases Nat.le_total m i with hmi | hmi
        · have := box_run hS id cs m (i - m) (by omega) fun k y h1 h2 => between k y (.inl ⟨h1, by omega⟩)
          rw [show m + (i - m) = i by omega] at this
          exact this.1 hbx
        · have := box_run hS id cs i (m - i) (by omega) fun k y h1 h2 => between k y (.inr ⟨h1, by omega⟩)
          rw [show i + (m - i) = m by omega] at this
          exact this.2 hbx
      · by_cases hrd : (alOk ios && isRd x.op) = true
        · obtain ⟨hal, hrd⟩ := (Bool.and_eq_true _ _).mp hrd
          have hxe : x.op.eff = false := by
            cases hxo : x.op <;> rw [hxo] at hrd <;> first | rfl | (cases hrd)
          obtain ⟨m, hm, hmk⟩ := init_seg (E := effAt ios) (D := D) (fun j k hjk hj hk hd => by
            simp only [effAt] at hj hk
            split at hj
            · rename_i oj hoj
              split at hk
              · rename_i ok hok
                refine order_spec hord hD hjk hoj hok ?_ hd
                simp [needs, hskip, hj, hk, hEff _ hk, hEff _ hj, hEffr _ hj]
              · cases hk
            · cases hj) ios.length
          have hbef : ∀ k y, k < i → ios[k]? = some y → y.op.eff = true → k < m := by
            intro k y hk hy he
            have hkl : k < ios.length := (List.getElem?_eq_some_iff.1 hy).1
            rw [← hmk k hkl (by simp [effAt, hy, he])]
            exact before k _ hk hy (by simp [needs, hskip, he, hf, hlb])
          have haft : ∀ k y, i ≤ k → k < m → ios[k]? = some y → y.op.eff = true → isAL y.op = true := by
            intro k y hk hkm hy he
            have hkl : k < ios.length := (List.getElem?_eq_some_iff.1 hy).1
            have hd := (hmk k hkl (by simp [effAt, hy, he])).2 hkm
            have hki : k ≠ i := by rintro rfl; rw [hni] at hd; cases hd
            cases hal' : isAL y.op with
            | true => rfl
            | false => have := after k _ (by omega) hy (by simp [needs, hskip, he, hf, hlb, hal']); rw [hd] at this; cases this
          refine .inl ⟨hxe, .inr (.inr ⟨hrd, fun id ob hl hv => ?_⟩)⟩
          rcases Nat.le_total i m with him | him
          · have hsD : (sD ios S D).heap = (S m).heap := by
              simp only [sD, heapL_upto hS m hm fun k hk he => hmk k hk he]
            rw [hsD]
            have := al_run hS hal hb0 i (m - i) (by omega) (fun k y h1 h2 => haft k y h1 (by omega)) id ob hl hv
            rwa [show i + (m - i) = m by omega] at this
          · have hsD : (sD ios S D).heap = (S i).heap := by
              have hu := heapL_upto hS (D := D) i (by omega) fun k hk he => by
                have hy : ios[k]? = some ios[k] := List.getElem?_eq_getElem hk
                have hye : ios[k].op.eff = true := by simpa [effAt, hy] using he
                rw [hmk k hk he]
                exact ⟨fun h => by omega, fun h => hbef k _ h hy hye⟩
              simp only [sD, hu]
            rw [hsD]; exact hl
        · refine .inr (heapL_upto hS i (by omega) fun k hk he => ?_)
          have hnr : (alOk ios && isRd x.op) = false := by simpa using hrd
          have hy : ios[k]? = some ios[k] := List.getElem?_eq_getElem hk
          have hye : ios[k].op.eff = true := by simpa [effAt, hy] using he
          have hnr' : ∀ b : Bool, (alOk ios && (b && isRd x.op)) = false := by
            intro b
            cases b
            · simp
            · simpa using hnr
          constructor
          · intro hd
            rcases Nat.lt_trichotomy k i with h | h | h
            · exact h
            · subst h; rw [hni] at hd; cases hd
            · have := after k _ h hy (by simp [needs, hskip, hye, hf, hlb, hnr']); rw [hd] at this; cases this
          · intro hk'
            exact before k _ hk' hy (by simp [needs, hskip, hye, hf, hlb])
  -- the new state
  have hnewl : ∀ (hp : List (Nat × Ob)) (nx : Nat) (v : SV), (∀ t, o.dst = some t → look (S (i + 1)).env t = some v) → ∀ t u, look (sD ios S (fun k => D k || Nat.beq k i)).env t = some u → look ((⟨(sD ios S D).env, hp, nx⟩ : St).set o.dst v).env t = some u := by
    intro hp nx v hv t u hu
    have agree : ∀ t, o.dst ≠ some t → look (sD ios S (fun k => D k || Nat.beq k i)).env t = look (sD ios S D).env t := by
      intro t ht
      refine envL_agree _ fun k hk hw => ?_
      have hne : k ≠ i := by
        rintro rfl
        obtain ⟨y, hy, hyd⟩ := hw
        rw [hx] at hy; cases hy
        rw [e1] at hyd; exact ht hyd
      have : Nat.beq k i = false := beq_ne hne
      simp [this]
    cases hdd : o.dst with
    | none => rw [agree t (by rw [hdd]; simp)] at hu; exact hu
    | some d =>
      simp only [St.set, look_cons]
      by_cases e : d = t
      · subst e
        rw [if_pos rfl]
        rw [show look (sD ios S (fun k => D k || Nat.beq k i)).env d = look (S (i + 1)).env d from look_upto hS (by omega) fun k hk hw => ?_, hv d hdd] at hu
        · exact hu
        · obtain ⟨y, hy, hyd⟩ := hw
          have hxd : x.dst = some d := by rw [e1, hdd]
          simp only [Bool.or_eq_true, Nat.beq_eq]
          constructor
          · rintro (hd | rfl)
            · rcases Nat.lt_trichotomy k i with h | h | h
              · omega
              · omega
              · have := after k y h hy (by simp [needs, hxd, hyd]); rw [hd] at this; cases this
            · omega
          · intro hk'
            by_cases e' : k = i
            · exact .inr e'
            · exact .inl (before k y (by omega) hy (by simp [needs, hxd, hyd]))
      · rw [if_neg e]
        rw [agree t (by rw [hdd]; simp [e])] at hu; exact hu
  have hkeep : x.op.eff = false → heapL ios S (fun k => D k || Nat.beq k i) ios.length = heapL ios S D ios.length := by
    intro he
    have : ∀ m, heapL ios S (fun k => D k || Nat.beq k i) m = heapL ios S D m := by
      intro m
      induction m with
      | zero => rfl
      | succ m ih =>
        simp only [heapL, ih]
        by_cases e : m = i
        · subst e
          have : effAt ios m = false := by simpa [effAt, hx] using he
          simp [this]
        · have : Nat.beq m i = false := beq_ne e
          simp [this]
    exact this _
  have hefr : x.op.eff = true → x.op.hfree = false := by
    intro he
    cases hxo : x.op <;> rw [hxo] at he <;> first | rfl | (cases he)
  have hnewh : x.op.eff = true → heapL ios S (fun k => D k || Nat.beq k i) ios.length = ((S (i + 1)).heap, (S (i + 1)).nx) := by
    intro he
    refine heapL_upto hS (i + 1) (by omega) fun k hk hek => ?_
    have hy : ios[k]? = some ios[k] := List.getElem?_eq_getElem hk
    have hye : ios[k].op.eff = true := by simpa [effAt, hy] using hek
    simp only [Bool.or_eq_true, Nat.beq_eq]
    constructor
    · rintro (hd | rfl)
      · rcases Nat.lt_trichotomy k i with h | h | h
        · omega
        · omega
        · have := after k _ h hy (by simp [needs, hskip, hye, hefr he, hEff _ he, hEffr _ he]); rw [hd] at this; cases this
      · omega
    · intro hk'
      by_cases e' : k = i
      · exact .inr e'
      · exact .inl (before k _ (by omega) hy (by simp [needs, hskip, hye, hefr he, hEff _ he]))
  unfold wpOp
  simp only [hi]
  -- the operation does not come up
  have skip : (∃ t b, x.guard = some (t, b) ∧ (look (S i).env t = some (.c (.bool (!b))) ∨ look (S i).env t = some .und)) → S (i + 1) = (S i).set x.dst .und → Region.wanted o (yielded ops a.tmps) = false ∧ K (a.put o.dst undef) w := by
    rintro ⟨t, b, hgd, hlk⟩ hs
    rcases hg with ⟨_, hg2⟩ | ⟨j, b', oj, t', hg1, hj, ht, hg2⟩
    · rw [hg2] at hgd; cases hgd
    · rw [hg2] at hgd; cases hgd
      have htl : look (sD ios S D).env t = look (S i).env t := hlook t (by simp [Opn.uses, hg2])
      obtain ⟨g1, g2⟩ := wanted_of h hg1 hj ht
      have htn : t < n := by
        have := hdst oj (by rw [Array.mem_toList_iff]; exact Array.mem_of_getElem? hj)
        rw [ht] at this
        simpa [dstOk, Nat.blt_eq] using this
      refine ⟨?_, ?_⟩
      · rcases hlk with hlk | hlk
        · rw [g1 _ (htl.trans hlk) htn]; cases b <;> rfl
        · exact g2 (htl.trans hlk)
      · have hr := rel_und h hdo
        have he : x.op.eff = false ∨ x.op.eff = true := by cases x.op.eff <;> simp
        rcases he with he | he
        · refine hK ι _ _ (rel_conv hr ?_ ?_ (hnewl _ _ .und fun t htd => ?_))
          · rw [(set_heap _ _ _).1]; simp only [sD, hkeep he]
          · rw [(set_heap _ _ _).2]; simp only [sD, hkeep he]
          · rw [hs, e1, htd]; simp [St.set, look_cons]
        · have hh : heapL ios S D ios.length = ((S i).heap, (S i).nx) := by
            rcases hheap with ⟨h1, _⟩ | h1
            · rw [he] at h1; cases h1
            · exact h1
          refine hK ι _ _ (rel_conv hr ?_ ?_ (hnewl _ _ .und fun t htd => ?_))
          · rw [(set_heap _ _ _).1]; simp only [sD, hnewh he, hh]; rw [hs, (set_heap _ _ _).1]
          · rw [(set_heap _ _ _).2]; simp only [sD, hnewh he, hh]; rw [hs, (set_heap _ _ _).2]
          · rw [hs, e1, htd]; simp [St.set, look_cons]
  rcases hS i x hx with ⟨v, hgd, xs, hxs, hcase⟩ | ⟨t, b, hgd, hlk, hs⟩
  · have hwant : Region.wanted o (yielded ops a.tmps) = true := by
      rcases hg with ⟨hg1, hg2⟩ | ⟨j, b', oj, t', hg1, hj, ht, hg2⟩
      · simp [Region.wanted, hg1]
      · rcases hgd with hgd | ⟨t, b, hgd, hlk⟩
        · rw [hg2] at hgd; cases hgd
        · rw [hg2] at hgd; cases hgd
          obtain ⟨g1, _⟩ := wanted_of h hg1 hj ht
          have htn : t' < n := by
            have := hdst oj (by rw [Array.mem_toList_iff]; exact Array.mem_of_getElem? hj)
            rw [ht] at this
            simpa [dstOk, Nat.blt_eq] using this
          rw [g1 _ ((hlook t' (by simp [Opn.uses, hg2])).trans hlk) htn]; simp
    rw [if_pos hwant]
    refine .inl ?_
    have hev : evalL (sD ios S D).env args = some xs := by
      rw [← e3, ← hxs]
      exact evalL_same fun t ht => hlook t (by unfold Opn.uses; split <;> simp [ht])
    rcases hcase with ⟨he, hp, hs⟩ | ⟨he, tt, hte, hp, hs⟩
    · have hp' : pop P io (sD ios S D).heap xs (· = v) := by
        rw [← e2]
        rcases hheap with ⟨_, h1 | ⟨h1, h1'⟩ | ⟨h1, h1'⟩⟩ | h1
        · exact pop_hfree h1 hp
        · exact pop_loadB h1 h1' hp
        · exact pop_mono h1 h1' hp
        · have : (sD ios S D).heap = (S i).heap := by simp only [sD, h1]
          rw [this]; exact hp
      refine pop_ok h.mem hlo rfl (by rw [← e2]; exact he) (evalL_rep h hev) hp' K Q ?_
      rintro u w' hdr ⟨hb, hr⟩
      refine hK ι _ _ (rel_conv (rel_set (s' := sD ios S D) h (step_below h.mem hb) hdr rfl hdo hr) ?_ ?_ (hnewl _ _ v fun t htd => ?_))
      · rw [(set_heap _ _ _).1]; simp only [sD, hkeep he]
      · rw [(set_heap _ _ _).2]; simp only [sD, hkeep he]
      · rw [hs, e1, htd]; simp [St.set, look_cons]
    · have hh : heapL ios S D ios.length = ((S i).heap, (S i).nx) := by
        rcases hheap with ⟨h1, _⟩ | h1
        · rw [he] at h1; cases h1
        · exact h1
      have hdet : x.op.det = true := List.all_eq_true.1 ((Bool.and_eq_true _ _).mp hord).1 x (List.mem_of_getElem? hx)
      have hp' := eop_env hdet hp (sD ios S D) (by simp only [sD, hh]) (by simp only [sD, hh])
      rw [e2] at hp'
      refine eop_ok h.mem hlo rfl (by rw [← e2]; exact he) (evalL_rep h hev) hp' K Q ?_
      rintro u w' hdr ⟨ι', v', s', q1, q2, q3, rfl, q5, q6⟩
      have hrel := rel_set h q2 hdr q1 hdo q3
      refine hK ι' _ _ (rel_conv hrel ?_ ?_ ?_)
      · rw [(set_heap _ _ _).1, q5]; simp only [sD, hnewh he]; rw [hs, (set_heap _ _ _).1]
      · rw [(set_heap _ _ _).2, q6]; simp only [sD, hnewh he]; rw [hs, (set_heap _ _ _).2]
      · intro t u' hu'
        have := hnewl s'.heap s'.nx v' (fun t htd => by rw [hs, e1, htd]; simp [St.set, look_cons]) t u' hu'
        obtain ⟨se, sh, sn⟩ := s'
        dsimp only at q1
        subst q1
        exact this
  · obtain ⟨h1, h2⟩ := skip ⟨t, b, hgd, hlk⟩ hs
    rw [if_neg (by rw [h1]; simp)]
    exact h2

/-! ### the whole region -/
def cnt (D : Nat → Bool) : Nat → Nat
  | 0 => 0
  | k + 1 => cnt D k + (!D k).toNat
theorem cnt_or (D : Nat → Bool) (i : Nat) (hi : D i = false) : ∀ m, (i < m → cnt (fun k => D k || Nat.beq k i) m + 1 = cnt D m) ∧ (m ≤ i → cnt (fun k => D k || Nat.beq k i) m = cnt D m)
  | 0 => ⟨fun h => by omega, fun _ => rfl⟩
  | m + 1 => by
    obtain ⟨h1, h2⟩ := cnt_or D i hi m
    refine ⟨fun h => ?_, fun h => ?_⟩
    · simp only [cnt]
      by_cases e : m = i
      · subst e; rw [h2 (Nat.le_refl _), hi, Nat.beq_refl]; rfl
      · have : Nat.beq m i = false := beq_ne e
        rw [this, Bool.or_false]
        have := h1 (by omega)
        omega
    · simp only [cnt]
      have : Nat.beq m i = false := by
        cases hb : Nat.beq m i with
        | false => rfl
        | true => have := Nat.eq_of_beq_eq_true hb; omega
      rw [this, Bool.or_false, h2 (by omega)]
theorem cnt_zero (D : Nat → Bool) : ∀ m, cnt D m = 0 → ∀ k, k < m → D k = true
  | 0, _, k, hk => by omega
  | m + 1, h, k, hk => by
    simp only [cnt] at h
    by_cases e : k = m
    · subst e
      cases hd : D k with
      | true => rfl
      | false => rw [hd] at h; simp at h
    · exact cnt_zero D m (by omega) k (by omega)
theorem cnt_all : ∀ m, cnt (fun _ => false) m = m
  | 0 => rfl
  | m + 1 => by simp [cnt, cnt_all m]

theorem wpAny_draw {q : Opts} {Q : Exit → Act → World → Prop} (hl : lowIOs P q ops ops.toList = some ios) (hord : orderB ops ios = true) (hdown : downB ops = true) (hdst : ∀ o ∈ ops.toList, dstOk n o.dst = true)
    (hS : ∀ i o, ios[i]? = some o → Goes P o (S i) (S (i + 1))) (hb0 : Bd (S 0)) (hQ : ∀ ι a w, Rel F w0 n ι (S ios.length) a w → Q .normal a w) :
    ∀ (fuel : Nat) (listed : Array Bool) (D : Nat → Bool) (ι : Iota) (a : Act) (w : World), listed.size = ops.size → (∀ k, k < ops.size → listed[k]? = some (D k)) → (∀ k, ops.size ≤ k → D k = false) → Shut ops (D · = true) → cnt D ops.size = fuel → Rel F w0 n ι (sD ios S D) a w → wpAny P .any ops Q fuel listed a w := by
  have hlen : ios.length = ops.size := by have := (lowIOs_get hl).1; simpa using this
  have fin : ∀ (D : Nat → Bool) (ι : Iota) (a : Act) (w : World), (∀ k, k < ops.size → D k = true) → Rel F w0 n ι (sD ios S D) a w → Q .normal a w := by
    intro D ι a w hall h
    refine hQ ι a w (rel_conv h ?_ ?_ fun t v ht => ?_)
    · simp only [sD, heapL_upto hS ios.length (Nat.le_refl _) fun k hk _ => ⟨fun _ => hk, fun _ => hall k (by omega)⟩]
    · simp only [sD, heapL_upto hS ios.length (Nat.le_refl _) fun k hk _ => ⟨fun _ => hk, fun _ => hall k (by omega)⟩]
    · show look (envL ios S D ios.length) t = some v
      rw [look_upto hS (Nat.le_refl _) fun k hk _ => ⟨fun _ => hk, fun _ => hall k (by omega)⟩]
      exact ht
  have empty : ∀ (listed : Array Bool) (D : Nat → Bool), listed.size = ops.size → (∀ k, k < ops.size → listed[k]? = some (D k)) → Region.ready .any ops listed = [] → ∀ k, k < ops.size → D k = true := by
    intro listed D hs hD hr k
    induction k using Nat.strongRecOn with
    | _ k ih =>
      intro hk
      cases hd : D k with
      | true => rfl
      | false =>
        have ho : ops[k]? = some ops[k] := Array.getElem?_eq_getElem hk
        have : k ∈ Region.ready .any ops listed := by
          refine mem_ready.2 ⟨by rw [Array.getD_eq_getD_getElem?, hD k hk, hd]; rfl, ops[k], ho, fun e he hb => ?_⟩
          unfold downB at hdown
          have h1 := List.all_eq_true.1 hdown k (List.mem_range.2 hk)
          simp only [ho] at h1
          have h2 := List.all_eq_true.1 h1 e (by simpa using he)
          simp only [hb, Bool.not_true, Bool.false_or, Nat.blt_eq] at h2
          have h3 := ih e.on h2 (by omega)
          have h4 := hD e.on (by omega)
          rw [h3] at h4
          simp [h4]
        rw [hr] at this
        cases this
  intro fuel
  induction fuel with
  | zero =>
    intro listed D ι a w hs hD hbig hsh hc h
    have hall := cnt_zero D ops.size hc
    refine ⟨?_, fin D ι a w hall h⟩
    cases hr : Region.ready .any ops listed with
    | nil => rfl
    | cons i r =>
      have hi : i ∈ Region.ready .any ops listed := by rw [hr]; simp
      obtain ⟨h1, o, ho, _⟩ := mem_ready.1 hi
      have hlt := (Array.getElem?_eq_some_iff.1 ho).1
      rw [Array.getD_eq_getD_getElem?, hD i hlt, hall i hlt] at h1
      cases h1
  | succ fuel ih =>
    intro listed D ι a w hs hD hbig hsh hc h
    refine ⟨fun hr => fin D ι a w (empty listed D hs hD hr) h, fun i hi => ?_⟩
    obtain ⟨h1, o, ho, h2⟩ := mem_ready.1 hi
    have hlt := (Array.getElem?_eq_some_iff.1 ho).1
    have hni : D i = false := by rw [Array.getD_eq_getD_getElem?, hD i hlt] at h1; simpa using h1
    have hpre : ∀ e ∈ o.after.toList, Region.binds .any e = true → D e.on = true := by
      intro e he hb
      have h3 := h2 e (by simpa using he) hb
      rcases Nat.lt_or_ge e.on ops.size with h4 | h4
      · rw [Array.getD_eq_getD_getElem?, hD e.on h4] at h3; simpa using h3
      · rw [Array.getD_eq_getD_getElem?, Array.getElem?_eq_none (by omega)] at h3; simp at h3
    refine draw_step hl hord hdst hS hb0 hsh ho hni hpre h fun ι' a' w' hr => ih _ (fun k => D k || Nat.beq k i) ι' a' w' (by simp [hs]) (fun k hk => ?_) (fun k hk => ?_) ?_ ?_ hr
    · rw [Array.getElem?_setIfInBounds]
      by_cases e : i = k
      · subst e; simp [hs, hlt]
      · have : Nat.beq k i = false := beq_ne (Ne.symm e)
        rw [if_neg e, hD k hk, this, Bool.or_false]
    · have : Nat.beq k i = false := by
        cases hb : Nat.beq k i with
        | false => rfl
        | true => have := Nat.eq_of_beq_eq_true hb; omega
      rw [hbig k hk, this]; rfl
    · intro j oj hj hdj e he hb
      simp only [Bool.or_eq_true, Nat.beq_eq] at hdj ⊢
      rcases hdj with hdj | rfl
      · exact .inl (hsh j oj hj hdj e he hb)
      · rw [ho] at hj; cases hj; exact .inl (hpre e he hb)
    · have := (cnt_or D i hni ops.size).1 hlt
      omega

theorem draw_ok {q : Opts} {Q : Exit → Act → World → Prop} {K : St → Prop} (hmix : P.follows .mixedOrders = true) (hl : lowIOs P q ops ops.toList = some ios) (hord : orderB ops ios = true) (hdown : downB ops = true) (hdst : ∀ o ∈ ops.toList, dstOk n o.dst = true)
    (hQ : ∀ ι s a w, Rel F w0 n ι s a w → K s → Q .normal a w) {ι : Iota} {s : St} {a : Act} {w : World} {id : Nat} (h : Rel F w0 n ι s a w) (hv : opsV P ios K s) : (Code.region id ops true).wp P Q a w := by
  obtain ⟨S, rfl, hSK, hS⟩ := opsV_trace ios K s ((Bool.and_eq_true _ _).mp hord).1 hv
  refine wp_region_any hmix (wpAny_draw hl hord hdown hdst hS (fun id o hl _ => (h.mem.heap id o hl).1) (fun ι a w hr => hQ ι _ a w hr hSK) ops.size _ (fun _ => false) ι a _ (by simp) (fun k hk => by simp [hk]) (fun _ _ => rfl) (fun i o _ h => by cases h) (cnt_all _) ?_)
  have h0 : sD ios S (fun _ => false) = S 0 := by
    have e1 : ∀ m, envL ios S (fun _ => false) m = (S 0).env := by
      intro m
      induction m with
      | zero => rfl
      | succ m ih => simp only [envL]; exact ih
    have e2 : ∀ m, heapL ios S (fun _ => false) m = ((S 0).heap, (S 0).nx) := by
      intro m
      induction m with
      | zero => rfl
      | succ m ih => simp only [heapL, Bool.false_and]; exact ih
    simp only [sD, e1, e2]
  rw [h0]
  have hst := step_below h.mem (w' := { w with drawn := w.drawn + 1 }) ⟨rfl, rfl, rfl, Nat.le_refl _, fun _ _ => rfl⟩
  exact ⟨h.size, h.defers, h.drawn.trans (fun _ => Nat.le_succ _), hst.mem, fun t v ht => hst.rep _ _ (h.env t v ht)⟩
end
end Go.Proofs.Ytbglmocgijlomaa

/- The abstract walk is sound: whole texts. No program in sight. -/
namespace Go.Proofs.Ytbglmocgijlomaa
open Go.RowKit

/-- The rows to be sealed ahead of the region whose first operation fills a given slot. -/
def sealsAt (l : List Opn) : List (Nat × Nat) → List Nat
  | [] => []
  | (d, t) :: r => match l with
    | ⟨some d', _, _, _⟩ :: _ => (match Nat.beq d d' with
      | true => t :: sealsAt l r
      | false => sealsAt l r)
    | _ => []
def withSeals (c : IC) : List Nat → IC
  | [] => c
  | t :: r => .seq (.sealc t) (withSeals c r)
def lowC (P : Program) (q : Opts) (n : Nat) : Code → Option IC
  | .skip => some .skip
  | .ret => some .ret
  | .region _ ops d => if ops.toList.all (fun o => dstOk n o.dst) then (match lowIOs P q ops ops.toList with
    | some l => (match !d || (orderB ops l && downB ops) with
      | true => some (withSeals (.ops l d) (sealsAt l q.seals))
      | false => none)
    | none => none) else none
  | .seq a b => match lowC P q n a, lowC P q n b with
    | some x, some y => some (.seq x y)
    | _, _ => none
  | .cond c a b => match lowC P q n a, lowC P q n b with
    | some x, some y => some (.cond c x y)
    | _, _ => none
  | .block id a => match lowC P q n a with
    | some x => some (.block id x)
    | none => none
  | .loop a => match lowC P q n a with
    | some x => some (.loop x)
    | none => none
  | .exit id => some (.exit id)
  | _ => none
def lowRV (P : Program) : ResultVar → Option RV
  | .tmp t => some (.tmp t)
  | .cell t ty => match sizeOfT P ty, P.underlying ty with
    | some k, some u => if aggD u = false → k = 1 then some (.cell t k (aggD u)) else none
    | _, _ => none
def lowRVs (P : Program) : List ResultVar → Option (List RV)
  | [] => some []
  | x :: r => match lowRV P x, lowRVs P r with
    | some y, some l => some (y :: l)
    | _, _ => none
def lowF (P : Program) (q : Opts) (f : Func) : Option IFn :=
  match f.body with
  | some c => match lowC P q f.ntmps c, lowRVs P f.results.toList with
    | some x, some r => some ⟨f.ntmps, r, x⟩
    | _, _ => none
  | none => none

/-! ### states that meet -/
theorem meetE_mem {σ : List (Nat × Nat)} {s : St} {nx : Nat} : ∀ {l : List (Nat × SV)}, meetE σ s nx l → ∀ t v, (t, v) ∈ l → look s.env t = some (renV σ v) ∧ bnd1 nx v = true
  | [], _, t, v, h => by simp at h
  | (t', v') :: r, hm, t, v, h => by
    rcases List.mem_cons.1 h with h | h
    · cases h; exact hm.1
    · exact meetE_mem hm.2 t v h
section
variable {P : Program} {F : Fr} {w0 w : World} {n : Nat} {ι : Iota} {s t : St} {a : Act}

theorem pinB_spec {n0 nx : Nat} {σ : List (Nat × Nat)} (h : pinB n0 σ nx = true) : n0 ≤ nx ∧ ∀ id, id < n0 → ren σ id = id := by
  unfold pinB at h
  simp only [Bool.and_eq_true, Nat.ble_eq] at h
  refine ⟨h.1, fun id hid => ?_⟩
  have h2 := h.2
  unfold ren
  clear h
  induction σ with
  | nil => rfl
  | cons p r ih =>
    obtain ⟨a, b⟩ := p
    simp only [List.all_cons, Bool.and_eq_true, Bool.or_eq_true, Nat.ble_eq, Nat.beq_eq] at h2
    rw [look_cons]
    by_cases e : a = id
    · rw [if_pos e]
      have := h2.1
      simp only [Option.getD_some]
      omega
    · rw [if_neg e]; exact ih h2.2
theorem meets_rel (h : Rel F w0 n ι s a w) (hm : Meets F.n0 s t) : ∃ ι', Rel F w0 n ι' t a w := by
  obtain ⟨σ, hE, hH, hn, hk, hpin⟩ := hm
  have hHm : ∀ id o, look t.heap id = some o → look s.heap (ren σ id) = some (renO σ o) ∧ Nat.blt id t.nx = true ∧ bndO t.nx o = true := fun id o ho => meetH_mem hH id o (look_mem ho)
  have hown : ∀ b, owned F (fun id => ι (ren σ id)) t.heap b → owned F ι s.heap b := by
    intro b hb
    rcases hb with hb | ⟨id, o, c, q1, q2, q3⟩
    · exact .inl hb
    · exact .inr ⟨ren σ id, _, c, (hHm id o q1).1, by rw [renO_live]; exact q2, q3⟩
  have kp : Keeps w w (owned F ι s.heap) (owned F (fun id => ι (ren σ id)) t.heap) := ⟨Nat.le_refl _, fun _ _ _ _ _ h => h, fun b _ h => hown b h⟩
  refine ⟨fun id => ι (ren σ id), h.size, h.defers, h.drawn, ⟨h.mem.below, h.mem.fb, fun id o ho => ?_, fun id o b c h1 l1 i1 => h.mem.free _ _ b c (hHm id o h1).1 (by rw [renO_live]; exact l1) i1, (pinB_spec hpin).1, (by
    intro id o h0 h1 l1
    have e := (pinB_spec hpin).2 id h0
    have h2 := (hHm id o h1).1
    rw [e] at h2
    show ι (ren σ id) = _
    rw [e]
    exact h.mem.pin id _ h0 h2 (by rw [renO_live]; exact l1)), fun id id' o o' b c c' h1 l1 h2 l2 i1 i2 => ?_⟩, fun tm v hv => ?_⟩
  · obtain ⟨q1, q2, q3⟩ := hHm id o ho
    refine ⟨by simpa [Nat.blt_eq] using q2, ?_⟩
    obtain ⟨_, hob⟩ := h.mem.heap _ _ q1
    cases o with
    | box cs =>
      simp only [renO, renL_map] at hob
      obtain ⟨b, c, cur, e, g1, g2, g3, g4, g5⟩ := hob
      refine ⟨b, c, cur, e, g1, g2, g3, by simpa using g4, fun j x u hx hu => ?_⟩
      have hx' : (cs.map (renV σ))[j]? = some (renV σ x) := by rw [List.getElem?_map, hx]; rfl
      obtain ⟨p1, p2⟩ := g5 j _ u hx' hu
      rw [renV_cell] at p1
      simp only [bndO, bndL_all] at q3
      exact ⟨p1, ren_rep hown (fun id o _ ho => (hHm id o ho).1) x u p2 (List.all_eq_true.1 q3 x (List.mem_of_getElem? hx))⟩
    | row e k es =>
      obtain ⟨xs, g1, g2, g3⟩ := hob
      exact ⟨xs, g1, g2, fun i c v hc hv => (g3 i c v hc hv).keep kp⟩
    | map kn ag kv =>
      obtain ⟨b, c, g⟩ := hob
      exact ⟨b, c, g⟩
    | dead => trivial
  · have e : ren σ id = ren σ id' := h.mem.inj _ _ _ _ b c c' (hHm id o h1).1 (by rw [renO_live]; exact l1) (hHm id' o' h2).1 (by rw [renO_live]; exact l2) i1 i2
    obtain ⟨p, hp⟩ := List.getElem?_of_mem (look_mem h1)
    obtain ⟨p', hp'⟩ := List.getElem?_of_mem (look_mem h2)
    have e1 : (t.heap.map fun p => ren σ p.1)[p]? = some (ren σ id) := by rw [List.getElem?_map, hp]; rfl
    have e2 : (t.heap.map fun p => ren σ p.1)[p']? = some (ren σ id) := by rw [List.getElem?_map, hp', e]; rfl
    have := nodupB_spec hn p p' _ e1 e2
    subst this
    rw [hp] at hp'
    cases hp'; rfl
  · obtain ⟨q1, q2⟩ := meetE_mem hE tm v (look_mem hv)
    exact ren_rep hown (fun id o _ ho => (hHm id o ho).1) v _ (h.env tm _ q1) q2

/-! ### sealing -/
theorem look_sealE (id k : Nat) (es : List (List CV)) : ∀ (l : List (Nat × SV)) (t : Nat) (v : SV), look (sealE id k es l) t = some v → ∃ v0, look l t = some v0 ∧ v = sealV id k es v0
  | [], t, v, h => by simp [sealE, look] at h
  | (i, x) :: r, t, v, h => by
    rw [sealE, look_cons] at h
    rw [look_cons]
    by_cases e : i = t
    · rw [if_pos e] at h ⊢; cases h; exact ⟨x, rfl, rfl⟩
    · rw [if_neg e] at h ⊢; exact look_sealE id k es r t v h
theorem look_sealH (id k : Nat) (es : List (List CV)) : ∀ (l : List (Nat × Ob)) (t : Nat) (v : Ob), look (sealH id k es l) t = some v → ∃ v0, look l t = some v0 ∧ v = sealO id k es v0
  | [], t, v, h => by simp [sealH, look] at h
  | (i, x) :: r, t, v, h => by
    rw [sealH, look_cons] at h
    rw [look_cons]
    by_cases e : i = t
    · rw [if_pos e] at h ⊢; cases h; exact ⟨x, rfl, rfl⟩
    · rw [if_neg e] at h ⊢; exact look_sealH id k es r t v h
theorem sealO_live (id k : Nat) (es : List (List CV)) (o : Ob) : (sealO id k es o).live = o.live := by cases o <;> rfl
theorem sealL_get (id k : Nat) (es : List (List CV)) : ∀ (cs : List SV) (j : Nat), (sealL id k es cs)[j]? = (cs[j]?).map (seal1 id k es)
  | [], j => by simp [sealL]
  | c :: r, 0 => by simp [sealL]
  | c :: r, j + 1 => by simp [sealL, sealL_get id k es r j]
theorem sealL_len (id k : Nat) (es : List (List CV)) : ∀ cs : List SV, (sealL id k es cs).length = cs.length
  | [] => rfl
  | c :: r => by simp [sealL, sealL_len id k es r]
theorem seal1_cell (id k : Nat) (es : List (List CV)) (s : SV) (h : s.cell = true) : (seal1 id k es s).cell = true := by
  unfold seal1; split
  · split <;> rfl
  · exact h
theorem seal_rel {e k id : Nat} {es : List (List CV)} {ι : Iota} {s : St} {a : Act} {w : World} (h : Rel F w0 n ι s a w) (hh : look s.heap id = some (.row e k es)) :
    Rel F w0 n ι ⟨sealE id k es s.env, (id, .dead) :: sealH id k es s.heap, s.nx⟩ a w := by
  have hid := (h.mem.heap id _ hh).1
  -- objects of the new heap
  have hobj : ∀ i o, look ((id, Ob.dead) :: sealH id k es s.heap) i = some o → o.live = true → i ≠ id ∧ ∃ o0, look s.heap i = some o0 ∧ o = sealO id k es o0 ∧ o0.live = true := by
    intro i o ho hl
    rw [look_cons] at ho
    by_cases e1 : id = i
    · rw [if_pos e1] at ho; cases ho; cases hl
    · rw [if_neg e1] at ho
      obtain ⟨o0, g1, rfl⟩ := look_sealH _ _ _ _ _ _ ho
      exact ⟨fun h => e1 h.symm, o0, g1, rfl, by rw [sealO_live] at hl; exact hl⟩
  have hown : ∀ b, owned F ι ((id, Ob.dead) :: sealH id k es s.heap) b → owned F ι s.heap b := by
    intro b hb
    rcases hb with hb | ⟨i, o, c, g1, g2, g3⟩
    · exact .inl hb
    · obtain ⟨_, o0, q1, rfl, q3⟩ := hobj i o g1 g2
      exact .inr ⟨i, o0, c, q1, q3, g3⟩
  have hkeep : Keeps w w (owned F ι s.heap) (owned F ι ((id, Ob.dead) :: sealH id k es s.heap)) := ⟨Nat.le_refl _, fun _ _ _ _ _ h => h, fun b _ h => hown b h⟩
  have hsh : Shapes ι ι s.heap ((id, Ob.dead) :: sealH id k es s.heap) s.nx s.nx := by
    refine ⟨Nat.le_refl _, fun i cs _ ho => ⟨rfl, ?_⟩, fun i e' k' es' _ ho => ⟨rfl, ?_⟩, fun i kn ag kv _ ho => ⟨rfl, ?_⟩⟩
    · obtain ⟨_, o0, q1, q2, _⟩ := hobj i _ ho rfl
      cases o0 <;> simp [sealO] at q2
      exact ⟨_, q1⟩
    · obtain ⟨_, o0, q1, q2, _⟩ := hobj i _ ho rfl
      cases o0 <;> simp [sealO] at q2
      obtain ⟨rfl, rfl, rfl⟩ := q2
      exact ⟨_, _, _, q1, rfl⟩
    · obtain ⟨_, o0, q1, q2, _⟩ := hobj i _ ho rfl
      cases o0 <;> simp [sealO] at q2
      exact ⟨_, _, _, q1⟩
  have hfree : ∀ b c, ι id = some (b, c) → ¬ owned F ι ((id, Ob.dead) :: sealH id k es s.heap) b := by
    intro b c hι hb
    rcases hb with hb | ⟨i, o, c', g1, g2, g3⟩
    · exact h.mem.off hh rfl hι hb
    · obtain ⟨q0, o0, q1, rfl, q3⟩ := hobj i o g1 g2
      exact q0 (h.mem.inj i id o0 _ b c' c q1 q3 hh rfl g3 hι)
  have hs1 : ∀ v u, Rep w (owned F ι s.heap) ι s.heap s.nx v u → Rep w (owned F ι ((id, Ob.dead) :: sealH id k es s.heap)) ι ((id, Ob.dead) :: sealH id k es s.heap) s.nx (seal1 id k es v) u := by
    intro v u hr
    unfold seal1
    split
    · rename_i i
      split
      · rename_i hb
        have := Nat.eq_of_beq_eq_true hb
        subst this
        cases hr with
        | osl _ _ hx h1 hv =>
          rw [hv _ _ _ hh]
          exact .c _ _ (row_view h.mem hown hh hfree)
      · exact hr.keep hkeep hsh
    · exact hr.keep hkeep hsh
  refine ⟨h.size, h.defers, h.drawn, ⟨h.mem.below, h.mem.fb, fun i o ho => ?_, fun i o b c h1 l1 i1 => ?_, h.mem.n0le, fun i o h0 h1 l1 => ?_, fun i i' o o' b c c' h1 l1 h2 l2 i1 i2 => ?_⟩, fun t v ht => ?_⟩
  · dsimp only at ho ⊢
    by_cases hl : o.live = true
    · obtain ⟨q0, o0, q1, rfl, q3⟩ := hobj i o ho hl
      obtain ⟨g1, g2⟩ := h.mem.heap i o0 q1
      refine ⟨g1, ?_⟩
      cases o0 with
      | box cs =>
        obtain ⟨b, c, cur, e', r1, r2, r3, r4, r5⟩ := g2
        refine ⟨b, c, cur, e', r1, r2, r3, by rw [sealL_len]; exact r4, fun j sv u hj hu => ?_⟩
        rw [sealL_get] at hj
        cases hcj : cs[j]? with
        | none => rw [hcj] at hj; cases hj
        | some s0 =>
          rw [hcj] at hj
          cases hj
          obtain ⟨z1, z2⟩ := r5 j s0 u hcj hu
          exact ⟨seal1_cell _ _ _ _ z1, hs1 _ _ z2⟩
      | row e' k' es' =>
        obtain ⟨xs, r1, r2, r3⟩ := g2
        exact ⟨xs, r1, r2, fun i c v hc hv => (r3 i c v hc hv).keep hkeep⟩
      | map kn ag kv => exact g2
      | dead => cases q3
    · have hd : o = .dead := by cases o <;> simp [Ob.live] at hl ⊢
      subst hd
      rw [look_cons] at ho
      by_cases e1 : id = i
      · subst e1; exact ⟨hid, trivial⟩
      · rw [if_neg e1] at ho
        obtain ⟨o0, g1, _⟩ := look_sealH _ _ _ _ _ _ ho
        exact ⟨(h.mem.heap i o0 g1).1, trivial⟩
  · obtain ⟨_, o0, q1, rfl, q3⟩ := hobj i o h1 l1
    exact h.mem.free i o0 b c q1 q3 i1
  · obtain ⟨_, o0, q1, rfl, q3⟩ := hobj i o h1 l1
    exact h.mem.pin i o0 h0 q1 q3
  · obtain ⟨_, o0, q1, rfl, q3⟩ := hobj i o h1 l1
    obtain ⟨_, o0', q1', rfl, q3'⟩ := hobj i' o' h2 l2
    exact h.mem.inj i i' o0 o0' b c c' q1 q3 q1' q3' i1 i2
  · dsimp only at ht ⊢
    obtain ⟨v0, q1, rfl⟩ := look_sealE _ _ _ _ _ _ ht
    have hr := h.env t v0 q1
    generalize a.tmps.getD t undef = u0 at hr ⊢
    unfold sealV
    split
    · rename_i cs
      cases hr with
      | agg _ vs hl hc hr =>
        refine .agg _ vs (by rw [sealL_len]; exact hl) (fun x hx => ?_) fun i sv u hi hu => ?_
        · obtain ⟨j, hj⟩ := List.getElem?_of_mem hx
          rw [sealL_get] at hj
          cases hcj : cs[j]? with
          | none => rw [hcj] at hj; cases hj
          | some s0 => rw [hcj] at hj; cases hj; exact seal1_cell _ _ _ _ (hc s0 (List.mem_of_getElem? hcj))
        · rw [sealL_get] at hi
          cases hcj : cs[i]? with
          | none => rw [hcj] at hi; cases hi
          | some s0 => rw [hcj] at hi; cases hi; exact hs1 _ _ (hr i s0 u hcj hu)
    · exact hs1 _ _ hr
theorem seals_ok {c : IC} {Q : Ex → St → Prop} {a : Act} {w : World} : ∀ (ts : List Nat) (ι : Iota) (s : St), Rel F w0 n ι s a w → vc P F.n0 (withSeals c ts) Q s → ∃ s', Rel F w0 n ι s' a w ∧ vc P F.n0 c Q s'
  | [], ι, s, h, hv => ⟨s, h, hv⟩
  | t :: r, ι, s, h, hv => by
    simp only [withSeals, vc] at hv
    split at hv
    · split at hv
      · rename_i hh
        exact seals_ok r ι _ (seal_rel h hh) hv
      · exact hv.elim
    · exact hv.elim

/-! ### texts -/
/-- What is asked at the exits. -/
def QQ (F : Fr) (w0 : World) (n : Nat) (Q : Ex → St → Prop) : Exit → Act → World → Prop
  | .normal, a, w => ∃ ι s, Rel F w0 n ι s a w ∧ Q .normal s
  | .exit i, a, w => ∃ ι s, Rel F w0 n ι s a w ∧ Q (.exit i) s
  | .ret, a, w => ∃ ι s, Rel F w0 n ι s a w ∧ Q .ret s
  | _, _, _ => False

theorem vc_ok (hmix : P.follows .mixedOrders = true) {q : Opts} : ∀ (c : Code) (ic : IC), lowC P q n c = some ic → ∀ (Q : Ex → St → Prop) (ι : Iota) (s : St) (a : Act) (w : World), Rel F w0 n ι s a w → vc P F.n0 ic Q s → c.wp P (QQ F w0 n Q) a w := by
  intro c
  induction c with
  | skip => intro ic hl Q ι s a w h hv; simp [lowC] at hl; subst hl; exact wp_skip ⟨ι, s, h, hv⟩
  | ret => intro ic hl Q ι s a w h hv; simp [lowC] at hl; subst hl; exact wp_ret ⟨ι, s, h, hv⟩
  | exit id => intro ic hl Q ι s a w h hv; simp [lowC] at hl; subst hl; exact wp_exit ⟨ι, s, h, hv⟩
  | region id ops d =>
    intro ic hl Q ι s a w h hv
    simp only [lowC] at hl
    split at hl
    · rename_i hall
      have hdst : ∀ o ∈ ops.toList, dstOk n o.dst = true := fun o ho => List.all_eq_true.1 hall o ho
      split at hl
      · rename_i l hlo
        split at hl
        · rename_i hd
          cases hl
          obtain ⟨s, h, hv⟩ := seals_ok _ ι s h hv
          cases d with
          | false => exact wp_region_list (opsV_ok (q := q) (K := Q .normal) hdst (fun ι s a w hr hk => ⟨ι, s, hr, hk⟩) ops.toList l (fun _ h => h) hlo ι s a w h hv)
          | true =>
            simp only [Bool.not_true, Bool.false_or, Bool.and_eq_true] at hd
            exact draw_ok (K := Q .normal) hmix hlo hd.1 hd.2 hdst (fun ι s a w hr hk => ⟨ι, s, hr, hk⟩) h hv
        · cases hl
      · cases hl
    · cases hl
  | seq x y ihx ihy =>
    intro ic hl Q ι s a w h hv
    simp only [lowC] at hl
    split at hl
    · rename_i ix iy h1 h2
      cases hl
      refine wp_seq (wp_mono (ihx ix h1 _ ι s a w h hv) fun e a' w' hq => ?_)
      cases e with
      | normal => obtain ⟨ι', s', hr, hk⟩ := hq; exact ihy iy h2 Q ι' s' a' w' hr hk
      | exit i => exact hq
      | ret => exact hq
      | goto l => exact hq
      | panic ch => exact hq
      | outgrown => exact hq
    · cases hl
  | cond c x y ihx ihy =>
    intro ic hl Q ι s a w h hv
    simp only [lowC] at hl
    split at hl
    · rename_i ix iy h1 h2
      cases hl
      simp only [vc] at hv
      split at hv
      · rename_i hc
        exact wp_cond_true (rep_bool (evalO_rep h hc)) (ihx ix h1 Q ι s a w h hv)
      · rename_i hc
        exact wp_cond_false (rep_bool (evalO_rep h hc)) (ihy iy h2 Q ι s a w h hv)
      · exact hv.elim
    · cases hl
  | block id x ih =>
    intro ic hl Q ι s a w h hv
    simp only [lowC] at hl
    split at hl
    · rename_i ix h1
      cases hl
      refine wp_block (wp_mono (ih ix h1 _ ι s a w h hv) fun e a' w' hq => ?_)
      cases e with
      | normal => exact hq
      | exit i =>
        obtain ⟨ι', s', hr, hk⟩ := hq
        simp only [Exit.inBlock]
        dsimp only at hk
        by_cases e : i = id
        · subst e
          rw [Nat.beq_refl] at hk
          rw [if_pos rfl]; exact ⟨ι', s', hr, hk⟩
        · rw [beq_ne e] at hk
          rw [if_neg e]; exact ⟨ι', s', hr, hk⟩
      | ret => exact hq
      | goto l => exact hq
      | panic ch => exact hq
      | outgrown => exact hq
    · cases hl
  | loop x ih =>
    intro ic hl Q ι s a w h hv
    simp only [lowC] at hl
    split at hl
    · rename_i ix h1
      cases hl
      simp only [vc] at hv
      obtain ⟨X, I, inv, μ, ⟨x0, hx0, hm0⟩, hstep⟩ := hv
      obtain ⟨ι0, h0⟩ := meets_rel h hm0
      refine wp_loop_ghost (fun k a w => ∃ (y : X) (ι : Iota), inv y ∧ μ y = k ∧ Rel F w0 n ι (I y) a w) (μ x0) ⟨x0, ι0, hx0, rfl, h0⟩ ?_
      rintro k a1 w1 ⟨y, ι1, hy, rfl, hr⟩
      refine wp_mono (ih ix h1 _ ι1 (I y) a1 w1 hr (hstep y hy)) fun e a' w' hq => ?_
      cases e with
      | normal =>
        obtain ⟨ι2, s2, hr2, y', ⟨hy', hlt⟩, hm'⟩ := hq
        obtain ⟨ι3, hr3⟩ := meets_rel hr2 hm'
        exact ⟨μ y', hlt, y', ι3, hy', rfl, hr3⟩
      | exit i => exact hq
      | ret => exact hq
      | goto l => exact hq
      | panic ch => exact hq
      | outgrown => exact hq
    · cases hl
  | rangeFunc => intro ic hl; simp [lowC] at hl
  | scope => intro ic hl; simp [lowC] at hl
  | label => intro ic hl; simp [lowC] at hl
  | goto => intro ic hl; simp [lowC] at hl
  | refuse => intro ic hl; simp [lowC] at hl
end
end Go.Proofs.Ytbglmocgijlomaa

/- The abstract walk is sound: a function's contract out of its condition. No program in sight. -/
namespace Go.Proofs.Ytbglmocgijlomaa
open Go.RowKit

section
variable {P : Program} {F : Fr} {w0 w : World} {n : Nat} {ι : Iota} {s : St} {a : Act}

/-- One result. -/
def resItem (tmps : Array Value) (r : ResultVar) : Sem Value :=
  match r with
  | .tmp t => pure (tmps.getD t undef)
  | .cell x t => do loadVar t (← asAddr (tmps.getD x undef))
theorem results_eq (fn : Func) (tmps : Array Value) : results fn tmps = (do
    let vs ← fn.results.mapM (resItem tmps)
    pure (if h : vs.size = 1 then vs[0] else .tuple vs)) := by
  unfold results
  congr 1
theorem res_run (h : Rel F w0 n ι s a w) : ∀ {rs : List ResultVar} {irs : List RV} {vs : List SV}, lowRVs P rs = some irs → resL s irs = some vs →
    ∃ us, (rs.mapM (resItem a.tmps)).run P w = .ok us w ∧ RepList w (owned F ι s.heap) ι s.heap s.nx vs us
  | [], irs, vs, hl, hr => by
    simp [lowRVs] at hl
    subst hl
    simp [resL] at hr
    subst hr
    exact ⟨[], by simp, replist_mk0⟩
  | x :: rs, irs, vs, hl, hr => by
    simp only [lowRVs] at hl
    split at hl
    · rename_i y l h1 h2
      cases hl
      simp only [resL] at hr
      split at hr
      · rename_i v vl h3 h4
        cases hr
        obtain ⟨us, hus, hrs⟩ := res_run h h2 h4
        have one : ∃ u, (resItem a.tmps x).run P w = .ok u w ∧ Rep w (owned F ι s.heap) ι s.heap s.nx v u := by
          cases x with
          | tmp t =>
            simp [lowRV] at h1
            subst h1
            exact ⟨_, rfl, h.env t v h3⟩
          | cell t ty =>
            simp only [lowRV] at h1
            split at h1
            · rename_i k u hk hu
              split at h1
              · rename_i hk1
                cases h1
                simp only [resOf] at h3
                split at h3
                · rename_i id j hlk
                  split at h3
                  · rename_i cs hh
                    obtain ⟨b, cur, e, hv, hcur, hrl, hcell, _⟩ := box_cells h.mem (h.env t _ hlk) hh
                    have hcl : cs.length = cur.size := by simpa using hrl.1
                    have key : j + k ≤ cs.length → (∀ z, ((aggD u = true ∧ z = .agg ((cur.toList.drop j).take k).toArray) ∨ (aggD u = false ∧ (cur.toList.drop j).take k = [z])) → Rep w (owned F ι s.heap) ι s.heap s.nx v z) →
                        ∃ z, (resItem a.tmps (.cell t ty)).run P w = .ok z w ∧ Rep w (owned F ι s.heap) ι s.heap s.nx v z := by
                      intro hle hz
                      obtain ⟨z, hrun, hz'⟩ := run_loadD (P := P) (w := w) hu hk hk1 (us := (cur.toList.drop j).take k) (b := b) (off := j) (by simp; omega) (fun i v hv => by
                        obtain ⟨g1, _⟩ := take_get _ _ _ _ hv
                        rw [List.getElem?_drop] at g1
                        rw [cell_of_cells hcur]; simpa using g1)
                      exact ⟨z, by simp only [resItem, Sem.run_bind, hv, asAddr, Sem.run_pure, Result.andThen_ok, hrun], hz z hz'⟩
                    cases ha : aggD u with
                    | true =>
                      rw [ha] at h3
                      dsimp only at h3
                      split at h3
                      · rename_i hb
                        cases h3
                        rw [Nat.ble_eq] at hb
                        refine key hb fun z hz => ?_
                        rcases hz with ⟨_, rfl⟩ | ⟨hf, _⟩
                        · obtain ⟨g1, g2⟩ := replist_sub hrl j k
                          exact .agg _ _ g1 (fun s hs => hcell s (List.mem_of_mem_drop (List.mem_of_mem_take hs))) g2
                        · rw [ha] at hf; cases hf
                      · cases h3
                    | false =>
                      rw [ha] at h3
                      dsimp only at h3
                      have hlt := (List.getElem?_eq_some_iff.1 h3).1
                      have hk' := hk1 ha
                      subst hk'
                      refine key (by omega) fun z hz => ?_
                      rcases hz with ⟨hf, _⟩ | ⟨_, hz⟩
                      · rw [ha] at hf; cases hf
                      · have : cur.toList[j]? = some z := by
                          have hj : j < cur.toList.length := by simp; omega
                          rw [List.drop_eq_getElem_cons hj] at hz
                          simp at hz
                          simp [← hz]
                        exact hrl.2 j v z h3 this
                  · cases h3
                · cases h3
              · cases h1
            · cases h1
        obtain ⟨u, hu, hru⟩ := one
        refine ⟨u :: us, ?_, replist_mk hru hrs⟩
        rw [List.mapM_cons]
        simp only [Sem.run_bind, hu, Result.andThen_ok, hus, Sem.run_pure]
      · cases hr
    · cases hl

theorem pos_spec {σ : List Nat} {id p : Nat} (h : pos σ id = some p) : σ[p]? = some id := by
  unfold pos at h
  obtain ⟨hlt, h1, _⟩ := List.findIdx?_eq_some_iff_getElem.1 h
  rw [List.getElem?_eq_getElem hlt, ← Nat.eq_of_beq_eq_true h1]
theorem pos_none {σ : List Nat} {id : Nat} (h : pos σ id = none) : id ∉ σ := by
  unfold pos at h
  intro hm
  have := List.findIdx?_eq_none_iff.1 h id hm
  rw [Nat.beq_refl] at this
  cases this
theorem obsOk_spec {H : List (Nat × Ob)} : ∀ {σ : List Nat} {obs : List Ob}, obsOk H σ obs → σ.length = obs.length ∧ ∀ (p : Nat) (id : Nat) (o : Ob), σ[p]? = some id → obs[p]? = some o → look H id = some o ∧ ∃ e k es, o = .row e k es
  | [], [], _ => by simp
  | [], o :: t, h => h.elim
  | id :: r, [], h => h.elim
  | id :: r, o :: t, h => by
    obtain ⟨h1, h2⟩ := obsOk_spec h.2
    refine ⟨by simp [h1], fun p id' o' hp ho => ?_⟩
    cases p with
    | zero => simp at hp ho; subst hp; subst ho; exact h.1
    | succ p => exact h2 p id' o' (by simpa using hp) (by simpa using ho)

theorem out_ok (h : Rel F w0 n ι s a w) (hG : ∀ b, ¬ F.G b) {σ : List Nat} {obs : List Ob} (hn : nodupB σ = true) (ho : obsOk s.heap σ obs) :
    let ι1 : Iota := fun p => (σ[p]?).bind ι
    let H1 := idxFrom 0 obs
    (∀ v u, Rep w (owned F ι s.heap) ι s.heap s.nx v u → Rep w (owned F ι1 H1) ι1 H1 obs.length (outV σ s.heap v) u) ∧
    (∀ id o, look H1 id = some o → ObRep w (owned F ι1 H1) ι1 H1 obs.length w0.heap.size id o) ∧
    (∀ id id' o o' b c c', look H1 id = some o → o.live = true → look H1 id' = some o' → o'.live = true → ι1 id = some (b, c) → ι1 id' = some (b, c') → id = id') := by
  intro ι1 H1
  obtain ⟨hlen, hobs⟩ := obsOk_spec ho
  have hidx : ∀ i, look H1 i = obs[i]? := fun i => by show look (idxFrom 0 obs) i = _; rw [look_idx]; simp
  have hback : ∀ p o, look H1 p = some o → ∃ id, σ[p]? = some id ∧ look s.heap id = some o ∧ ι1 p = ι id ∧ ∃ e k es, o = .row e k es := by
    intro p o hp
    rw [hidx] at hp
    have hlt : p < σ.length := by rw [hlen]; exact (List.getElem?_eq_some_iff.1 hp).1
    have hs := List.getElem?_eq_getElem hlt
    obtain ⟨q1, q2⟩ := hobs p _ o hs hp
    exact ⟨_, hs, q1, by show (σ[p]?).bind ι = _; rw [hs]; rfl, q2⟩
  have hown : ∀ b, owned F ι1 H1 b → owned F ι s.heap b := by
    intro b hb
    rcases hb with hb | ⟨p, o, c, q1, q2, q3⟩
    · exact .inl hb
    · obtain ⟨id, _, g2, g3, _⟩ := hback p o q1
      rw [g3] at q3
      exact .inr ⟨id, o, c, g2, q2, q3⟩
  have kp : Keeps w w (owned F ι s.heap) (owned F ι1 H1) := ⟨Nat.le_refl _, fun _ _ _ _ _ h => h, fun b _ h => hown b h⟩
  have hout0 : ∀ v u, Rep w (owned F ι s.heap) ι s.heap s.nx v u → Rep w (owned F ι1 H1) ι1 H1 obs.length (out0 σ s.heap v) u := by
    intro v u hr
    unfold out0
    split
    · rename_i id
      split
      · rename_i p hp
        have hs := pos_spec hp
        have hlt : p < obs.length := by rw [← hlen]; exact (List.getElem?_eq_some_iff.1 hs).1
        cases hr with
        | osl _ _ hx h1 hr =>
          refine .osl p u hlt h1 fun e k es hh => ?_
          obtain ⟨id', g1, g2, g3, _⟩ := hback p _ hh
          rw [hs] at g1
          cases g1
          rw [g3]; exact hr _ _ _ g2
      · rename_i hp
        have hni := pos_none hp
        have href : refOk (owned F ι1 H1) ι s.heap (.osl id) := by
          intro o b c h1 h2 h3 hb
          rcases hb with hb | ⟨p, o', c', q1, q2, q3⟩
          · exact h.mem.off h1 h2 h3 hb
          · obtain ⟨id', g1, g2, g3, _⟩ := hback p o' q1
            rw [g3] at q3
            have := h.mem.inj id' id o' o b c' c g2 q2 h1 h2 q3 h3
            subst this
            exact hni (List.mem_of_getElem? g1)
        have := view0_rep (F' := owned F ι1 H1) h.mem hown (fun _ _ h _ => h) (.inr href) hr
        exact this.keep ⟨Nat.le_refl _, fun _ _ _ _ _ h => h, fun _ _ h => h⟩ ⟨Nat.zero_le _, fun id _ h => absurd h (Nat.not_lt_zero _), fun id _ _ _ h => absurd h (Nat.not_lt_zero _), fun id _ _ _ h => absurd h (Nat.not_lt_zero _)⟩
    · cases hr with | c _ _ hr => exact .c _ _ (hr.keep kp)
    · cases hr with | rp _ b off xs hl hb ho hx hr => exact .rp _ b off xs hl hb (fun h => ho (hown b h)) hx fun i c v hc hv => (hr i c v hc hv).keep kp
    · cases hr with | fn _ _ vs hl hr => exact .fn _ [] vs hl fun i s v hs _ => by simp at hs
    · exact .none_ u
  have houtL : ∀ cs us, RepList w (owned F ι s.heap) ι s.heap s.nx cs us → RepList w (owned F ι1 H1) ι1 H1 obs.length (outL σ s.heap cs) us := by
    intro cs
    induction cs with
    | nil => intro us hr; rw [replist_nil hr]; exact replist_mk0
    | cons x r ih =>
      intro us hr
      obtain ⟨u, ur, rfl, h1, h2⟩ := replist_cons hr
      exact replist_mk (hout0 x u h1) (ih ur h2)
  refine ⟨fun v u hr => ?_, fun id o ho => ?_, fun id id' o o' b c c' h1 l1 h2 l2 i1 i2 => ?_⟩
  · unfold outV
    split
    · split
      · rename_i hall
        cases hr with
        | agg _ vs hl hc hr =>
          obtain ⟨g1, g2⟩ := houtL _ vs ⟨hl, hr⟩
          exact .agg _ vs g1 (fun x hx => List.all_eq_true.1 hall x hx) g2
      · exact .none_ u
    · exact hout0 v u hr
  · obtain ⟨id', g1, g2, g3, e, k, es, rfl⟩ := hback id o ho
    obtain ⟨xs, p1, p2, p3⟩ := (h.mem.heap id' _ g2).2
    refine ⟨xs, ?_, p2, fun i c v hc hv => (p3 i c v hc hv).keep kp⟩
    rw [g3]
    obtain ⟨f1, f2⟩ := p1
    refine ⟨f1, f2.imp (fun h => h) fun ⟨g, cap, cur, r1, r2, r3⟩ => ⟨g, cap, cur, r1, ?_, r3⟩⟩
    cases hι : ι id' with
    | none => rw [hι] at r1; simp [ownVal] at r1
    | some q =>
      obtain ⟨b, c⟩ := q
      rw [hι] at r1
      simp only [ownVal, Value.slice.injEq, Option.some.injEq, Addr.mk.injEq, and_true, true_and] at r1
      obtain ⟨rfl, _⟩ := r1
      rcases h.mem.free id' _ b c g2 rfl hι with h1 | h1
      · exact h1
      · exact absurd h1 (hG b)
  · obtain ⟨j, g1, g2, g3, _⟩ := hback id o h1
    obtain ⟨j', g1', g2', g3', _⟩ := hback id' o' h2
    rw [g3] at i1
    rw [g3'] at i2
    have := h.mem.inj j j' o o' b c c' g2 l1 g2' l2 i1 i2
    subst this
    exact nodupB_spec hn id id' _ g1 g1'

theorem argEnv_look : ∀ (l : List SV) (k t : Nat), look (argEnv k l) t = if k ≤ t then l[t - k]? else none
  | [], k, t => by simp [argEnv, look]
  | v :: r, k, t => by
    rw [argEnv, look_cons, argEnv_look r (k + 1) t]
    by_cases e : k = t
    · subst e; simp
    · rw [if_neg e]
      by_cases h : k + 1 ≤ t
      · rw [if_pos h, if_pos (by omega), show t - k = (t - (k + 1)) + 1 by omega]; simp
      · rw [if_neg h, if_neg (by omega)]

theorem leR_rep {own : Nat → Prop} {H : List (Nat × Ob)} {nx : Nat} {vs : List SV} {us : List Value} {r : SV} (h : leR vs r) (hr : RepList w own ι H nx vs us) : Rep w own ι H nx r (if h : us.toArray.size = 1 then us.toArray[0] else .tuple us.toArray) := by
  unfold leR at h
  split at h
  · obtain ⟨u, rfl, hu⟩ := replist_one hr
    simpa using leV_rep h hu
  · rename_i hne
    have hl := hr.1
    have hn1 : ¬ us.toArray.size = 1 := by
      intro h1
      simp at h1
      cases vs with
      | nil => simp at hl; omega
      | cons v r => cases r with
        | nil => exact hne v rfl
        | cons v' r => simp at hl; omega
    rw [dif_neg hn1]
    obtain ⟨h1, h2⟩ := leVs_rep h hr
    exact .tup _ us h1 h2
  · exact h.elim

/-- A function's contract. -/
theorem holds_of (hmix : P.follows .mixedOrders = true) {f : Nat} {fn : Func} {q : Opts} {ir : IFn} {C : Spec} (hf : P.funcs[f]? = some fn) (hl : lowF P q fn = some ir) (hlen : ∀ x, Nat.ble (C.args x).length ir.n = true) (hv : fnV P ir C) : Holds P f C := by
  intro x F w vs hpre hF hargs
  unfold lowF at hl
  split at hl
  · rename_i c hbody
    split at hl
    · rename_i ic irs h1 h2
      cases hl
      have hvl : vs.length ≤ fn.ntmps := by rw [← hargs.1]; have := hlen x; rwa [Nat.ble_eq] at this
      refine calls_of_wp hf hbody ?_
      have hrel : Rel ⟨F, fun _ => False, 0, fun _ => none⟩ w fn.ntmps (fun _ => none) ⟨argEnv 0 (C.args x), [], 0⟩ { tmps := vs.toArray ++ Array.replicate (fn.ntmps - vs.toArray.size) undef, defers := [] } w := by
        refine ⟨by simp; omega, rfl, DrLe.refl _, ⟨BelowG.refl _ _, fun b h => ⟨hF b h, fun h => h⟩, fun id o h => by simp [look] at h, fun id o b c h => by simp [look] at h, Nat.le_refl _, fun id o h => absurd h (Nat.not_lt_zero _), fun id id' o o' b c c' h => by simp [look] at h⟩, fun t v ht => ?_⟩
        dsimp only at ht ⊢
        rw [argEnv_look] at ht
        simp at ht
        have hlt : t < vs.length := by rw [← hargs.1]; exact (List.getElem?_eq_some_iff.1 ht).1
        have hgd : (vs.toArray ++ Array.replicate (fn.ntmps - vs.toArray.size) undef).getD t undef = vs[t] := by
          rw [Array.getD_eq_getD_getElem?, Array.getElem?_append_left (by simpa using hlt)]
          simp [hlt]
        rw [hgd]
        have := hargs.2 t v _ ht (List.getElem?_eq_getElem hlt)
        exact this.keep ⟨Nat.le_refl _, fun _ _ _ _ _ h => h, fun b _ h => owned_nil.1 h⟩ (Shapes.refl _ _ _)
      refine wp_mono (vc_ok hmix c ic h1 _ _ _ _ _ hrel (hv x hpre)) fun e a' w' hq => ?_
      have fin : ∀ ι s, Rel ⟨F, fun _ => False, 0, fun _ => none⟩ w fn.ntmps ι s a' w' → finV irs s (C.res x) (C.obs x) → a'.defers = [] ∧ ∃ v, (results fn a'.tmps).run P w' = .ok v w' ∧ CallPost F w (C.res x) (C.obs x) (.returned v) w' := by
        intro ι s hr hfin
        refine ⟨hr.defers, ?_⟩
        obtain ⟨σ, hn, hobs, hres⟩ := hfin
        split at hres
        · rename_i vs' hvs
          obtain ⟨us, hus, hrl⟩ := res_run hr h2 hvs
          obtain ⟨o1, o2, o3⟩ := out_ok hr (fun _ h => h) hn hobs
          have hrl' : ∀ (vs : List SV) (us : List Value), RepList w' (owned F ι s.heap) ι s.heap s.nx vs us → RepList w' (owned F (fun p => (σ[p]?).bind ι) (idxFrom 0 (C.obs x))) (fun p => (σ[p]?).bind ι) (idxFrom 0 (C.obs x)) (C.obs x).length (outs σ s.heap vs) us := by
            intro vs
            induction vs with
            | nil => intro us h; rw [replist_nil h]; exact replist_mk0
            | cons v r ih =>
              intro us h
              obtain ⟨u, ur, rfl, g1, g2⟩ := replist_cons h
              exact replist_mk (o1 v u g1) (ih ur g2)
          refine ⟨_, ?_, _, _, rfl, hr.mem.below.below (fun _ h => h), hr.drawn, leR_rep hres (hrl' vs' us hrl), o2, o3⟩
          rw [results_eq, Array.mapM_eq_mapM_toList]
          simp only [Sem.run_bind, Sem.run_map, hus, Result.andThen_ok, Sem.run_pure]
        · exact hres.elim
      cases e with
      | normal => obtain ⟨ι, s, hr, hk⟩ := hq; exact fin ι s hr hk
      | ret => obtain ⟨ι, s, hr, hk⟩ := hq; exact fin ι s hr hk
      | exit i => obtain ⟨ι, s, hr, hk⟩ := hq; exact hk.elim
      | goto l => exact hq.elim
      | panic ch => exact hq.elim
      | outgrown => exact hq.elim
    · cases hl
  · cases hl

/-! ### given objects -/
theorem meetF_spec {ρ : List (Nat × Nat)} {s : St} {n : Nat} : ∀ {objs : List Ob} {k : Nat}, meetF ρ s n k objs → ∀ (p : Nat) (o : Ob), objs[p]? = some o → o.live = true → look s.heap (ren ρ (k + p)) = some (renO ρ o) ∧ bndO n o = true
  | [], k, _, p, o, h, _ => by simp at h
  | x :: r, k, hm, p, o, h, hl => by
    cases p with
    | zero =>
      simp at h
      subst h
      cases x with
      | dead => cases hl
      | box cs => exact hm.1
      | row e kk es => exact hm.1
      | map kn ag kv => exact hm.1
    | succ p =>
      have hr : meetF ρ s n (k + 1) r := by
        cases x with
        | dead => exact hm
        | box cs => exact hm.2
        | row e kk es => exact hm.2
        | map kn ag kv => exact hm.2
      have := meetF_spec hr p o (by simpa using h) hl
      rw [show k + (p + 1) = k + 1 + p by omega]; exact this

theorem outG_ok {F' : Nat → Prop} {G : Nat → Prop} {n0 : Nat} {ι0 : Iota} (h : Rel ⟨F', G, n0, ι0⟩ w0 n ι s a w) {σ : List Nat} {fin obs : List Ob} (hn : nodupB (upFrom 0 n0 ++ σ) = true) (hfl : fin.length = n0) (hsl : σ.length = obs.length)
    (hm : meetF (sig 0 (upFrom 0 n0 ++ σ)) s (fin.length + obs.length) 0 (fin ++ obs)) :
    let ι1 : Iota := fun p => ι (ren (sig 0 (upFrom 0 n0 ++ σ)) p)
    let H1 := idxFrom 0 (fin ++ obs)
    (∀ v u r, Rep w (owned F' ι s.heap) ι s.heap s.nx v u → resG1 (sig 0 (upFrom 0 n0 ++ σ)) (fin.length + obs.length) (upFrom 0 n0 ++ σ) s.heap v r → Rep w (owned F' ι1 H1) ι1 H1 (fin ++ obs).length r u) ∧
    (∀ id o, look H1 id = some o → ObRep w (owned F' ι1 H1) ι1 H1 (fin ++ obs).length 0 id o) ∧ injO H1 ι1 ∧
    (∀ id o, id < n0 → look H1 id = some o → o.live = true → ι1 id = ι0 id) ∧
    (∀ id o b c, look H1 id = some o → o.live = true → ι1 id = some (b, c) → w0.heap.size ≤ b ∨ G b) := by
  intro ι1 H1
  have hlen : (upFrom 0 n0 ++ σ).length = (fin ++ obs).length := by simp [upFrom_len, hfl, hsl]
  have hH1 : ∀ p, look H1 p = (fin ++ obs)[p]? := fun p => by show look (idxFrom 0 (fin ++ obs)) p = _; rw [look_idxG]; simp
  have hidx : ∀ p, p < (fin ++ obs).length → ∃ g, (upFrom 0 n0 ++ σ)[p]? = some g ∧ ren (sig 0 (upFrom 0 n0 ++ σ)) p = g := fun p hp => by
    have h1 := List.getElem?_eq_getElem (l := upFrom 0 n0 ++ σ) (i := p) (by omega)
    exact ⟨_, h1, ren_sig h1⟩
  have hlow : ∀ p, p < n0 → ren (sig 0 (upFrom 0 n0 ++ σ)) p = p := fun p hp => by
    refine ren_sig ?_
    rw [List.getElem?_append_left (by rw [upFrom_len]; exact hp), upFrom_get, if_pos hp, Nat.zero_add]
  have hlive : ∀ p o, o.live = true → look H1 p = some o → look s.heap (ren (sig 0 (upFrom 0 n0 ++ σ)) p) = some (renO (sig 0 (upFrom 0 n0 ++ σ)) o) := fun p o hl ho => by
    rw [hH1] at ho
    have := (meetF_spec hm p o ho hl).1
    rwa [Nat.zero_add] at this
  have hbnd : ∀ p o, o.live = true → look H1 p = some o → bndO (fin ++ obs).length o = true := fun p o hl ho => by
    rw [hH1] at ho
    rw [List.length_append]
    exact (meetF_spec hm p o ho hl).2
  have hlt : ∀ p o, look H1 p = some o → p < (fin ++ obs).length := fun p o ho => by
    rw [hH1] at ho
    exact (List.getElem?_eq_some_iff.1 ho).1
  have hown : ∀ b, owned F' ι1 H1 b → owned F' ι s.heap b := by
    rintro b (hb | ⟨p, o, c, q1, q2, q3⟩)
    · exact .inl hb
    · exact .inr ⟨_, _, c, hlive p o q2 q1, by rw [renO_live]; exact q2, q3⟩
  have hinj : injO H1 ι1 := by
    intro p p' o o' b c c' h1 l1 h2 l2 i1 i2
    have e := h.mem.inj _ _ _ _ b c c' (hlive p o l1 h1) (by rw [renO_live]; exact l1) (hlive p' o' l2 h2) (by rw [renO_live]; exact l2) i1 i2
    obtain ⟨g, g1, g2⟩ := hidx p (hlt p o h1)
    obtain ⟨g', g1', g2'⟩ := hidx p' (hlt p' o' h2)
    rw [g2, g2'] at e
    subst e
    exact nodupB_spec hn p p' g g1 g1'
  refine ⟨?_, fun id o ho => ?_, hinj, fun id o hid ho hl => ?_, fun id o b c ho hl hι => ?_⟩
  · have hout0 : ∀ v u, Rep w (owned F' ι s.heap) ι s.heap s.nx v u → Rep w (owned F' ι1 H1) ι1 H1 (fin ++ obs).length (out0 (upFrom 0 n0 ++ σ) s.heap v) u := by
      intro v u hr
      have kp : Keeps w w (owned F' ι s.heap) (owned F' ι1 H1) := ⟨Nat.le_refl _, fun _ _ _ _ _ h => h, fun b _ h => hown b h⟩
      unfold out0
      split
      · rename_i id
        split
        · rename_i p hp
          have hs := pos_spec hp
          have hltp : p < (fin ++ obs).length := by rw [← hlen]; exact (List.getElem?_eq_some_iff.1 hs).1
          cases hr with
          | osl _ _ hx h1 hr =>
            refine .osl p u hltp h1 fun e k es hh => ?_
            have g := hlive p _ rfl hh
            have e1 := ren_sig hs
            rw [e1] at g
            show u = ownVal (ι (ren _ p)) _
            rw [e1]
            exact hr _ _ _ g
        · rename_i hp
          have hni := pos_none hp
          have href : refOk (owned F' ι1 H1) ι s.heap (.osl id) := by
            intro o b c h1 h2 h3 hb
            rcases hb with hb | ⟨p, o', c', q1, q2, q3⟩
            · exact h.mem.off h1 h2 h3 hb
            · have := h.mem.inj _ id _ o b c' c (hlive p o' q2 q1) (by rw [renO_live]; exact q2) h1 h2 q3 h3
              obtain ⟨g, g1, g2⟩ := hidx p (hlt p o' q1)
              rw [g2] at this
              subst this
              exact hni (List.mem_of_getElem? g1)
          have := view0_rep (F' := owned F' ι1 H1) h.mem hown (fun _ _ h _ => h) (.inr href) hr
          exact this.keep ⟨Nat.le_refl _, fun _ _ _ _ _ h => h, fun _ _ h => h⟩ ⟨Nat.zero_le _, fun id _ h => absurd h (Nat.not_lt_zero _), fun id _ _ _ h => absurd h (Nat.not_lt_zero _), fun id _ _ _ h => absurd h (Nat.not_lt_zero _)⟩
      · cases hr with | c _ _ hr => exact .c _ _ (hr.keep kp)
      · cases hr with | rp _ b off xs hl hb ho hx hr => exact .rp _ b off xs hl hb (fun h => ho (hown b h)) hx fun i c v hc hv => (hr i c v hc hv).keep kp
      · cases hr with | fn _ _ vs hl hr => exact .fn _ [] vs hl fun i s v hs _ => by simp at hs
      · exact .none_ u
    have houtL : ∀ cs us, RepList w (owned F' ι s.heap) ι s.heap s.nx cs us → RepList w (owned F' ι1 H1) ι1 H1 (fin ++ obs).length (outL (upFrom 0 n0 ++ σ) s.heap cs) us := by
      intro cs
      induction cs with
      | nil => intro us hr; rw [replist_nil hr]; exact replist_mk0
      | cons x r ih =>
        intro us hr
        obtain ⟨u, ur, rfl, h1, h2⟩ := replist_cons hr
        exact replist_mk (hout0 x u h1) (ih ur h2)
    intro v u r hr hres
    unfold resG1 at hres
    cases hg : gk r with
    | true =>
      rw [hg] at hres
      obtain ⟨rfl, hb⟩ := hres
      exact ren_rep hown hlive r u hr (by rw [List.length_append]; exact hb)
    | false =>
      rw [hg] at hres
      refine leV_rep hres ?_
      unfold outV
      split
      · split
        · rename_i hall
          cases hr with
          | agg _ vs hl hc hr =>
            obtain ⟨g1, g2⟩ := houtL _ vs ⟨hl, hr⟩
            exact .agg _ vs g1 (fun x hx => List.all_eq_true.1 hall x hx) g2
        · exact .none_ u
      · exact hout0 v u hr
  · cases hl : o.live with
    | true => exact ren_ob hown hlive (h.mem.heap _ _ (hlive id o hl ho)).2 (hbnd id o hl ho)
    | false =>
      cases o <;> simp [Ob.live] at hl
      trivial
  · have g := hlive id o hl ho
    rw [hlow id hid] at g
    show ι (ren _ id) = _
    rw [hlow id hid]
    exact h.mem.pin id _ hid g (by rw [renO_live]; exact hl)
  · exact h.mem.free _ _ b c (hlive id o hl ho) (by rw [renO_live]; exact hl) hι

theorem resGs_rep {own own' : Nat → Prop} {ι1 : Iota} {H1 : List (Nat × Ob)} {n1 : Nat} {ρ : List (Nat × Nat)} {n : Nat} {σ : List Nat}
    (h1 : ∀ v u r, Rep w own ι s.heap s.nx v u → resG1 ρ n σ s.heap v r → Rep w own' ι1 H1 n1 r u) : ∀ {vs rs : List SV} {us : List Value}, resGs ρ n σ s.heap vs rs → RepList w own ι s.heap s.nx vs us → RepList w own' ι1 H1 n1 rs us
  | [], [], us, _, h => by rw [replist_nil h]; exact replist_mk0
  | [], y :: t, us, h, _ => h.elim
  | x :: r, [], us, h, _ => h.elim
  | x :: r, y :: t, us, h, hr => by
    obtain ⟨u, ur, rfl, hu, hur⟩ := replist_cons hr
    exact replist_mk (h1 x u y hu h.1) (resGs_rep h1 h.2 hur)
theorem resG_rep {own own' : Nat → Prop} {ι1 : Iota} {H1 : List (Nat × Ob)} {n1 : Nat} {ρ : List (Nat × Nat)} {n : Nat} {σ : List Nat} {vs : List SV} {us : List Value} {r : SV}
    (h1 : ∀ v u r, Rep w own ι s.heap s.nx v u → resG1 ρ n σ s.heap v r → Rep w own' ι1 H1 n1 r u) (h : resG ρ n σ s.heap vs r) (hr : RepList w own ι s.heap s.nx vs us) :
    Rep w own' ι1 H1 n1 r (if h : us.toArray.size = 1 then us.toArray[0] else .tuple us.toArray) := by
  unfold resG at h
  split at h
  · obtain ⟨u, rfl, hu⟩ := replist_one hr
    simpa using h1 _ u _ hu h
  · rename_i hne
    have hl := hr.1
    have hn1 : ¬ us.toArray.size = 1 := by
      intro h1
      simp at h1
      cases vs with
      | nil => simp at hl; omega
      | cons v r => cases r with
        | nil => exact hne v rfl
        | cons v' r => simp at hl; omega
    rw [dif_neg hn1]
    obtain ⟨g1, g2⟩ := resGs_rep h1 h hr
    exact .tup _ us g1 g2
  · exact h.elim

/-- The contract of a function that is given objects. -/
theorem holdsG_of (hmix : P.follows .mixedOrders = true) {f : Nat} {fn : Func} {q : Opts} {ir : IFn} {C : GSpec} (hf : P.funcs[f]? = some fn) (hl : lowF P q fn = some ir) (hlen : ∀ x, Nat.ble (C.args x).length ir.n = true) (hv : fnG P ir C) : HoldsG P f C := by
  intro x F w vs ι0 hpre hF hobs0 hinj0 hargs
  unfold lowF at hl
  split at hl
  · rename_i c hbody
    split at hl
    · rename_i ic irs h1 h2
      cases hl
      have hvl : vs.length ≤ fn.ntmps := by rw [← hargs.1]; have := hlen x; rwa [Nat.ble_eq] at this
      refine calls_of_wp hf hbody ?_
      have hrel : Rel ⟨F, given (idxFrom 0 (C.ins x)) ι0, (C.ins x).length, ι0⟩ w fn.ntmps ι0 ⟨argEnv 0 (C.args x), idxFrom 0 (C.ins x), (C.ins x).length⟩ { tmps := vs.toArray ++ Array.replicate (fn.ntmps - vs.toArray.size) undef, defers := [] } w := by
        refine ⟨by simp; omega, rfl, DrLe.refl _, ⟨BelowG.refl _ _, hF, fun id o h => ⟨?_, hobs0 id o h⟩, fun id o b c h l i => .inr ⟨id, o, c, h, l, i⟩, Nat.le_refl _, fun _ _ _ _ _ => rfl, hinj0⟩, fun t v ht => ?_⟩
        · dsimp only at h ⊢
          rw [look_idxG] at h
          simp at h
          exact (List.getElem?_eq_some_iff.1 h).1
        · dsimp only at ht ⊢
          rw [argEnv_look] at ht
          simp at ht
          have hlt : t < vs.length := by rw [← hargs.1]; exact (List.getElem?_eq_some_iff.1 ht).1
          have hgd : (vs.toArray ++ Array.replicate (fn.ntmps - vs.toArray.size) undef).getD t undef = vs[t] := by
            rw [Array.getD_eq_getD_getElem?, Array.getElem?_append_left (by simpa using hlt)]
            simp [hlt]
          rw [hgd]
          exact hargs.2 t v _ ht (List.getElem?_eq_getElem hlt)
      refine wp_mono (vc_ok hmix c ic h1 _ _ _ _ _ hrel (hv x hpre)) fun e a' w' hq => ?_
      have fin : ∀ ι s, Rel ⟨F, given (idxFrom 0 (C.ins x)) ι0, (C.ins x).length, ι0⟩ w fn.ntmps ι s a' w' → finG irs s (C.ins x).length (C.res x) (C.fin x) (C.obs x) →
          a'.defers = [] ∧ ∃ v, (results fn a'.tmps).run P w' = .ok v w' ∧ CallPostG F w ι0 (idxFrom 0 (C.ins x)) (C.ins x).length (C.res x) (C.fin x ++ C.obs x) (.returned v) w' := by
        intro ι s hr hfin
        refine ⟨hr.defers, ?_⟩
        obtain ⟨σ, hn, hls, hm, hres⟩ := hfin
        simp only [Bool.and_eq_true, Nat.beq_eq] at hls
        split at hres
        · rename_i vs' hvs
          obtain ⟨us, hus, hrl⟩ := res_run hr h2 hvs
          obtain ⟨o1, o2, o3, o4, o5⟩ := outG_ok hr hn hls.1 hls.2 hm
          refine ⟨_, ?_, _, _, rfl, hr.mem.below, hr.drawn, resG_rep o1 hres hrl, o2, o3, o4, o5⟩
          rw [results_eq, Array.mapM_eq_mapM_toList]
          simp only [Sem.run_bind, Sem.run_map, hus, Result.andThen_ok, Sem.run_pure]
        · exact hres.elim
      cases e with
      | normal => obtain ⟨ι, s, hr, hk⟩ := hq; exact fin ι s hr hk
      | ret => obtain ⟨ι, s, hr, hk⟩ := hq; exact fin ι s hr hk
      | exit i => obtain ⟨ι, s, hr, hk⟩ := hq; exact hk.elim
      | goto l => exact hq.elim
      | panic ch => exact hq.elim
      | outgrown => exact hq.elim
    · cases hl
  · cases hl
end
end Go.Proofs.Ytbglmocgijlomaa

/- Words for the abstract walks. No program in sight. -/
namespace Go.Proofs.Ytbglmocgijlomaa
open Go.RowKit

abbrev I (n : Int) : SV := .c (.int .i64 n)
abbrev B (b : Bool) : SV := .c (.bool b)
abbrev L (k : Nat) (es : List (List CV)) : SV := .c (.sl k es)
abbrev cI (n : Int) : List CV := [.int .i64 n]
/-- A contract whose result is closed. -/
abbrev spec (X : Type) (args : X → List SV) (pre : X → Prop) (res : X → SV) : Spec := ⟨X, args, pre, res, fun _ => []⟩

theorem le0_refl (x : SV) : le0 x x := by
  cases x with
  | c v => cases v <;> rfl
  | _ => rfl
theorem leL_refl : ∀ l : List SV, leL l l
  | [] => trivial
  | x :: r => ⟨le0_refl x, leL_refl r⟩
theorem leV_refl (x : SV) : leV x x := by
  cases x with
  | agg cs => exact leL_refl cs
  | tup cs => exact leL_refl cs
  | c v => exact le0_refl (.c v)
  | none_ => trivial
  | _ => rfl
theorem leVs_of_eq {l m : List SV} (h : l = m) : leVs l m := by
  subst h
  induction l with
  | nil => trivial
  | cons x r ih => exact ⟨leV_refl x, ih⟩
/-- A contract with a weaker result. -/
theorem Holds.weaken {P : Program} {f : Nat} {S : Spec} (h : Holds P f S) (ho : ∀ x, S.obs x = []) (res' : S.X → SV) (hr : ∀ x, S.pre x → leV (S.res x) (res' x)) : Holds P f ⟨S.X, S.args, S.pre, res', fun _ => []⟩ := by
  intro x F w vs hp hF ha
  refine Calls.mono (h x F w vs hp hF ha) ?_
  rintro e w' ⟨v, ι, rfl, hb, hd, hv, h1, h2⟩
  rw [ho x] at hv h1 h2
  exact ⟨v, ι, rfl, hb, hd, leV_rep (hr x hp) hv, h1, h2⟩
theorem map_get {α : Type} {f : α → List CV} {xs : List α} {i : Nat} {r : List CV} (h : (xs.map f)[i]? = some r) : ∃ x, xs[i]? = some x ∧ r = f x := by
  rw [List.getElem?_map] at h
  cases hx : xs[i]? with
  | none => rw [hx] at h; cases h
  | some x => rw [hx] at h; cases h; exact ⟨x, rfl, rfl⟩
end Go.Proofs.Ytbglmocgijlomaa

/- Plain helpers for proofs with the engine. No program in sight. -/
namespace Go.Proofs.Ytbglmocgijlomaa
open Go.RowKit

theorem drop_of {α : Type} {xs : List α} {k : Nat} {x : α} (hx : xs[k]? = some x) : xs.drop k = x :: xs.drop (k + 1) := by
  obtain ⟨hk, rfl⟩ := List.getElem?_eq_some_iff.1 hx
  exact List.drop_eq_getElem_cons hk
theorem drop_end {α : Type} {xs : List α} {k : Nat} (hk : ¬ k < xs.length) : xs.drop k = [] := List.drop_eq_nil_of_le (by omega)
theorem take_end {α : Type} {xs : List α} {k : Nat} (hk : ¬ k < xs.length) : xs.take k = xs := List.take_of_length_le (by omega)
theorem take_snoc {α : Type} (l : List α) (k : Nat) (y : α) (h : l[k]? = some y) : l.take (k + 1) = l.take k ++ [y] := by
  rw [List.take_add_one, h]; rfl
theorem take_step {α : Type} {xs ys : List α} {k : Nat} {x y : α} (h : xs.take k = ys.take k) (hx : xs[k]? = some x) (hy : ys[k]? = some y) (e : x = y) : xs.take (k + 1) = ys.take (k + 1) := by
  rw [List.take_add_one, List.take_add_one, h, hx, hy, e]
theorem take_all {α : Type} {xs ys : List α} {k : Nat} (h : xs.take k = ys.take k) (h1 : xs.length ≤ k) (h2 : ys.length ≤ k) : xs = ys := by
  rw [List.take_of_length_le h1, List.take_of_length_le h2] at h; exact h
theorem ne_at {α : Type} {xs ys : List α} {k : Nat} {x y : α} (hx : xs[k]? = some x) (hy : ys[k]? = some y) (e : x ≠ y) : xs ≠ ys := fun h => by subst h; rw [hx] at hy; cases hy; exact e rfl
theorem get_row {α : Type} {f : α → List CV} {xs : List α} {i : Nat} {x : α} {r : List CV} (hr : (xs.map f)[(i : Int).toNat]? = some r) (hx : xs[i]? = some x) : r = f x := by
  obtain ⟨y, hy, rfl⟩ := map_get hr
  rw [Int.toNat_natCast, hx] at hy
  cases hy; rfl
theorem get_rowi {α : Type} {f : α → List CV} {xs : List α} {i : Int} {j : Nat} {x : α} {r : List CV} (hr : (xs.map f)[i.toNat]? = some r) (hi : i = j) (hx : xs[j]? = some x) : r = f x := by
  subst hi; exact get_row hr hx
theorem get_row1 {α : Type} {f : α → List CV} {xs : List α} {k : Nat} {x : α} {r : List CV} (hr : (xs.map f)[((k : Int) - 1).toNat]? = some r) (h0 : 0 < k) (hx : xs[k - 1]? = some x) : r = f x :=
  get_rowi hr (by omega) hx
/-- A row that is read at a known place. -/
theorem get_at {es : List (List CV)} {i : Nat} {r0 : List CV} {K : List CV → Prop} (hx : es[i]? = some r0) (k : K r0) : i < es.length ∧ ∀ r, es[i]? = some r → K r :=
  ⟨(List.getElem?_eq_some_iff.1 hx).1, fun r hr => by rw [hx] at hr; cases hr; exact k⟩
theorem load_at {α : Type} {f : α → List CV} {xs : List α} {i : Nat} {x : α} {K : List CV → Prop} (hx : xs[i]? = some x) (k : K (f x)) : i < (xs.map f).length ∧ ∀ r, (xs.map f)[i]? = some r → K r :=
  get_at (by rw [List.getElem?_map, hx]; rfl) k
theorem idx_at {α : Type} {f : α → List CV} {xs : List α} {i : Nat} {x : α} {K : List CV → Prop} (hx : xs[i]? = some x) (k : K (f x)) : (0 ≤ (i : Int) ∧ (i : Int) < (xs.map f).length) ∧ ∀ r, (xs.map f)[(i : Int).toNat]? = some r → K r := by
  have := (List.getElem?_eq_some_iff.1 hx).1
  exact ⟨⟨by omega, by rw [List.length_map]; omega⟩, fun r hr => by obtain rfl := get_row hr hx; exact k⟩
theorem idx_ati {α : Type} {f : α → List CV} {xs : List α} {i : Int} {j : Nat} {x : α} {K : List CV → Prop} (hi : i = j) (hx : xs[j]? = some x) (k : K (f x)) : (0 ≤ i ∧ i < (xs.map f).length) ∧ ∀ r, (xs.map f)[i.toNat]? = some r → K r := by
  subst hi; exact idx_at hx k
theorem map_snoc {α : Type} (f : α → List CV) (xs : List α) (x : α) : xs.map f ++ [f x] = (xs ++ [x]).map f := by simp
theorem getElem_some {α : Type} {xs : List α} {k : Nat} (h : k < xs.length) : ∃ x, xs[k]? = some x := ⟨_, List.getElem?_eq_getElem h⟩
/-- The least number at or below 0, 0 or 1 that tells how two numbers stand. -/
def cmpI (a b : Int) : Int := if a < b then -1 else if b < a then 1 else 0
theorem cmpI_lt (a b : Int) : cmpI a b < 0 ↔ a < b := by unfold cmpI; split <;> (try split) <;> omega
theorem cmpI_eq (a b : Int) : cmpI a b = 0 ↔ a = b := by unfold cmpI; split <;> (try split) <;> omega
/-- The first number that is not 0, or 0. -/
def orI : List Int → Int
  | [] => 0
  | x :: r => if x = 0 then orI r else x
theorem orI_step {xs : List Int} {k : Nat} {x : Int} (hx : xs[k]? = some x) : orI (xs.drop k) = if x = 0 then orI (xs.drop (k + 1)) else x := by
  rw [drop_of hx, orI]
/-- Cells that name nothing of the call's own. -/
theorem ren_closed (σ : List (Nat × Nat)) (cs : List CV) : renV σ (.agg (cs.map .c)) = .agg (cs.map .c) := by
  have : ∀ cs : List CV, renV.renL σ (cs.map .c) = cs.map .c := by
    intro cs
    induction cs with
    | nil => rfl
    | cons c r ih => simp only [List.map_cons, renV.renL, ih, renV]
  rw [renV, this]
theorem bnd_closed (nx : Nat) (cs : List CV) : bnd1 nx (.agg (cs.map .c)) = true := by
  have : ∀ cs : List CV, bnd1.bndL nx (cs.map .c) = true := by
    intro cs
    induction cs with
    | nil => rfl
    | cons c r ih => simp only [List.map_cons, bnd1.bndL, ih, bnd1, Bool.and_self]
  rw [bnd1, this]
/-- A number of 64 bits. -/
def i64 (n : Int) : Prop := -9223372036854775808 ≤ n ∧ n ≤ 9223372036854775807
end Go.Proofs.Ytbglmocgijlomaa
