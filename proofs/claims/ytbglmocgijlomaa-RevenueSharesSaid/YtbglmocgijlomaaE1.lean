/- The engine. No program in sight. -/
import Derived.WalkKit
import Derived.WalkSpells
import Derived.WalkLawsBesides
import Derived.Below
import Derived.Laws.OwnMore
import Derived.Deep.AppendLies
import Derived.Deep.Draws
import Derived.Deep.OwnRows
import Derived.Maps.AppendAt
import Derived.RegionTactic
import Derived.OwnWalk
import Derived.Deep.QuietTactic
import Derived.BigQuiet
import Derived.Lib.Hide
import Derived.StillTailTactics
import Derived.Deep.RegionHeld3
import Derived.Sort.Grow
import Derived.Shelf.GgSortFunc.RowK
import Derived.Laws.StructEq
/- Words for memory: slices that read as lists, rows of the call's own, worlds that only grow. No program in sight. -/
namespace Go.Proofs.Ytbglmocgijlomaa
open Go.RowKit

theorem block_of_add (a : Addr) (n : Nat) : (a.add n).block = a.block := by unfold Addr.add; split <;> rfl
theorem add_of_add (a : Addr) (i j : Nat) : (a.add i).add j = a.add (i + j) := by
  unfold Addr.add
  by_cases hi : i = 0 <;> by_cases hj : j = 0 <;> simp [hi, hj, Nat.add_assoc]

def Reads (w : World) (B size : Nat) (A : Option Addr) (n : Nat) (xs : List Value) : Prop :=
  xs.length = n * size ∧ (0 < n → ∃ ad, A = some ad ∧ ad.block < B ∧ ∀ j u, xs[j]? = some u → w.cell? (ad.add j) = some u)

section
variable {w w' : World} {B B' size n : Nat} {A : Option Addr} {xs : List Value}
theorem Reads.none_ : Reads w B size A 0 [] := ⟨by simp, fun h => absurd h (by omega)⟩
theorem Reads.at_ {k : Nat} (h : Reads w B 1 A n xs) (hk : k < n) : ∃ ad u, A = some ad ∧ ad.block < B ∧ xs[k]? = some u ∧ w.cell? (ad.add k) = some u := by
  obtain ⟨ad, e, hb, hc⟩ := h.2 (by omega)
  have hl : k < xs.length := by have := h.1; omega
  exact ⟨ad, xs[k], e, hb, List.getElem?_eq_getElem hl, hc k _ (List.getElem?_eq_getElem hl)⟩
theorem Reads.keep (h : Reads w B size A n xs) (hk : ∀ p : Addr, p.block < B → w'.cell? p = w.cell? p) : Reads w' B size A n xs :=
  ⟨h.1, fun hn => by
    obtain ⟨ad, e, hb, hc⟩ := h.2 hn
    exact ⟨ad, e, hb, fun j u hu => (hk _ (by rw [block_of_add]; exact hb)).trans (hc j u hu)⟩⟩
theorem Reads.more (h : Reads w B size A n xs) (hB : B ≤ B') : Reads w B' size A n xs :=
  ⟨h.1, fun hn => by
    obtain ⟨ad, e, hb, hc⟩ := h.2 hn
    exact ⟨ad, e, by omega, hc⟩⟩
theorem Reads.below (h : Reads w B size A n xs) (hb : Below B w w') : Reads w' B size A n xs := h.keep fun _ hp => hb.cell hp
theorem Reads.drew (h : Reads w B size A n xs) : Reads w.drew B size A n xs := h
theorem Reads.drewN (h : Reads w B size A n xs) (k : Nat) : Reads (w.drewN k) B size A n xs := h
theorem Reads.alloc (h : Reads w B size A n xs) (hB : B ≤ w.heap.size) (o : Obj) : Reads (w.alloc o) B size A n xs := h.keep fun p hp => World.cell?_alloc_lt w o p (by omega)
theorem Reads.setCell (h : Reads w B size A n xs) {p : Addr} (hB : B ≤ p.block) (u : Value) : Reads (w.setCell p u) B size A n xs :=
  h.keep fun q hq => World.cell?_setCell_other w p q u (fun e => by subst e; omega)
theorem Reads.grown (h : Reads w B size A n xs) {row : Option Nat} (hg : w.grownBy w' row) (hB : B ≤ w.heap.size) (hr : ∀ g, row = some g → B ≤ g) : Reads w' B size A n xs :=
  h.keep fun p hp => World.cell?_of_block (hg.block p.block (by omega) (fun e => by have := hr _ e.symm; omega))
theorem Reads.cut (h : Reads w B size A n xs) {k cap : Nat} (hk : k ≤ n) (hc : n ≤ cap) :
    Reads w B size (if cap = k then A else A.map (·.add (k * size))) (n - k) (xs.drop (k * size)) := by
  refine ⟨by rw [List.length_drop, h.1, Nat.sub_mul], fun hn => ?_⟩
  obtain ⟨ad, rfl, hb, hcell⟩ := h.2 (by omega)
  rw [if_neg (by omega)]
  refine ⟨ad.add (k * size), rfl, by rw [block_of_add]; exact hb, fun j u hu => ?_⟩
  rw [add_of_add]
  exact hcell _ u (by rw [← hu, List.getElem?_drop])
theorem Reads.of_own {base : Nat} {e : TypeId} {c : Nat} (h : w.ownsRow base e size (.slice A n c) n xs) : Reads w w.heap.size size A n xs := by
  refine ⟨h.1, fun hn => ?_⟩
  obtain ⟨g, cap, hv, _, hlt⟩ := h.form hn
  have hA : A = some ⟨g, 0, none⟩ := by injection hv
  subst hA
  exact ⟨_, rfl, hlt, h.cells (g := g) rfl⟩
end

section
variable {P : Program} (w : World)

theorem run_append_of_nil (base : Nat) (t ty e : TypeId) (i : TypeInfo) (size : Nat) (ht : P.underlying t = some (.slice e)) (hi : P.info? e = some i)
    (v : Value) (n : Nat) (xs : List Value) (hown : w.ownsRow base e size v n xs) (c : Nat) : (Builtin.append_ #[t, t] ty #[v, .slice none 0 c]).run P w = .ok v w := by
  rcases hown.2 with ⟨rfl, rfl⟩ | ⟨g, cap, cur, rfl, _, _, hnc, _⟩
  · simp [Builtin.append_, run_underlying ht, sizeOf, typeInfo, hi, Builtin.lenOf, Builtin.firstCells]
  · simp [Builtin.append_, run_underlying ht, sizeOf, typeInfo, hi, Builtin.lenOf, Builtin.firstCells, hnc, storeCells]

theorem run_append_any (base : Nat) (t ty e : TypeId) (i : TypeInfo) (z : Value) (size bytes : Nat) (ht : P.underlying t = some (.slice e)) (hi : P.info? e = some i) (hz : i.zero = some z)
    (hsize : i.size = size) (hby : i.bytes = bytes) (hzs : z.cells.size = size) (hsz : 0 < size)
    (v : Value) (n : Nat) (xs : List Value) (hown : w.ownsRow base e size v n xs)
    (B : Nat) (A : Option Addr) (m c : Nat) (news : List Value) (hr : Reads w B size A m news) (h1 : ∀ u ∈ news, u.oneCell' = true)
    (h63 : n + m ≤ maxLen) (hbytes : (n + m) * bytes ≤ 140737488355328) (hbase : base ≤ w.heap.size) :
    ∃ v' w', (Builtin.append_ #[t, t] ty #[v, .slice A m c]).run P w = .ok v' w' ∧ w'.ownsRow base e size v' (n + m) (xs ++ news) ∧ w.grownBy w' v.ownBlock ∧
      (v'.ownBlock = v.ownBlock ∨ v'.ownBlock = some w.heap.size) := by
  rcases A with _ | ad
  · have hm : m = 0 := by
      rcases Nat.eq_zero_or_pos m with h0 | h0
      · exact h0
      · obtain ⟨ad, h, _⟩ := hr.2 h0
        cases h
    subst hm
    have hn : news = [] := List.eq_nil_of_length_eq_zero (by simpa using hr.1)
    subst hn
    exact ⟨v, w, run_append_of_nil w base t ty e i size ht hi v n xs hown c, by simpa using hown, World.grownBy.refl w _, .inl rfl⟩
  · have hcells : ∀ j u, news[j]? = some u → w.cell? (ad.add j) = some u := by
      intro j u hu
      rcases Nat.eq_zero_or_pos m with h0 | h0
      · subst h0
        have hn : news = [] := List.eq_nil_of_length_eq_zero (by simpa using hr.1)
        subst hn
        simp at hu
      · obtain ⟨ad', h, _, hc⟩ := hr.2 h0
        injection h with h
        subst h
        exact hc j u hu
    obtain ⟨v', w', hrun, h2, h3, _, h5⟩ := run_append_own_at (P := P) w base t ty e i z size bytes ht hi hz hsize hby hzs hsz v n xs hown ad m c news hr.1 hcells h1 h63 hbytes hbase
    exact ⟨v', w', hrun, h2, h3, h5⟩

theorem wp_append_any {o : Oper} {a : Act} {K : Act → World → Prop} {Q : Exit → Act → World → Prop} (s x : Operand) (t : TypeId)
    (ho : o.op = .call { callee := .builtin .append, args := #[s, x], argTypes := #[t, t] })
    (base : Nat) (e : TypeId) (i : TypeInfo) (z : Value) (size bytes : Nat) (ht : P.underlying t = some (.slice e)) (hi : P.info? e = some i) (hz : i.zero = some z)
    (hsize : i.size = size) (hby : i.bytes = bytes) (hzs : z.cells.size = size) (hsz : 0 < size)
    (v : Value) (n : Nat) (xs : List Value) (hs : a.eval s = v) (hown : w.ownsRow base e size v n xs)
    (B : Nat) (A : Option Addr) (m c : Nat) (news : List Value) (hx : a.eval x = .slice A m c) (hr : Reads w B size A m news) (h1 : ∀ u ∈ news, u.oneCell' = true)
    (h63 : n + m ≤ maxLen) (hbytes : (n + m) * bytes ≤ 140737488355328) (hbase : base ≤ w.heap.size)
    (h : ∀ v' w', w'.ownsRow base e size v' (n + m) (xs ++ news) → w.grownBy w' v.ownBlock → (v'.ownBlock = v.ownBlock ∨ v'.ownBlock = some w.heap.size) → K (a.put o.dst v') w') : o.wp P a w K Q := by
  obtain ⟨v', w', hrun, h2, h3, h4⟩ := run_append_any (P := P) w base t o.type e i z size bytes ht hi hz hsize hby hzs hsz v n xs hown B A m c news hr h1 h63 hbytes hbase
  unfold Oper.wp execOp
  simp only [ho, resolve, invoke, builtin, Sem.run_bind, Sem.run_pure, Result.andThen_ok, List.map_toArray, List.map_cons, List.map_nil, hs, hx, hrun]
  exact h v' w' h2 h3 h4

theorem wpList_append_any {ops : Array Oper} {rest : List Oper} {o : Oper} {a : Act} {Q : Exit → Act → World → Prop} (hgd : o.guard = none) (s x : Operand) (t : TypeId)
    (ho : o.op = .call { callee := .builtin .append, args := #[s, x], argTypes := #[t, t] })
    (base : Nat) (e : TypeId) (i : TypeInfo) (z : Value) (size bytes : Nat) (ht : P.underlying t = some (.slice e)) (hi : P.info? e = some i) (hz : i.zero = some z)
    (hsize : i.size = size) (hby : i.bytes = bytes) (hzs : z.cells.size = size) (hsz : 0 < size)
    (v : Value) (n : Nat) (xs : List Value) (hs : a.eval s = v) (hown : w.ownsRow base e size v n xs)
    (B : Nat) (A : Option Addr) (m c : Nat) (news : List Value) (hx : a.eval x = .slice A m c) (hr : Reads w B size A m news) (h1 : ∀ u ∈ news, u.oneCell' = true)
    (h63 : n + m ≤ maxLen) (hbytes : (n + m) * bytes ≤ 140737488355328) (hbase : base ≤ w.heap.size)
    (h : ∀ v' w', w'.ownsRow base e size v' (n + m) (xs ++ news) → w.grownBy w' v.ownBlock → (v'.ownBlock = v.ownBlock ∨ v'.ownBlock = some w.heap.size) → wpList P ops Q rest (a.put o.dst v') w') : wpList P ops Q (o :: rest) a w :=
  wpList_plain hgd fun _ hK => wp_append_any w s x t ho base e i z size bytes ht hi hz hsize hby hzs hsz v n xs hs hown B A m c news hx hr h1 h63 hbytes hbase fun v' w' h2 h3 h4 => hK _ _ (h v' w' h2 h3 h4)

theorem step_append_any {ops : Array Oper} {o : Oper} {a : Act} {K : Act → World → Prop} {Q : Exit → Act → World → Prop} {E : Prop} (hgd : o.guard = none) (s x : Operand) (t : TypeId)
    (ho : o.op = .call { callee := .builtin .append, args := #[s, x], argTypes := #[t, t] })
    (base : Nat) (e : TypeId) (i : TypeInfo) (z : Value) (size bytes : Nat) (ht : P.underlying t = some (.slice e)) (hi : P.info? e = some i) (hz : i.zero = some z)
    (hsize : i.size = size) (hby : i.bytes = bytes) (hzs : z.cells.size = size) (hsz : 0 < size)
    (v : Value) (n : Nat) (xs : List Value) (hs : a.eval s = v) (hown : w.ownsRow base e size v n xs)
    (B : Nat) (A : Option Addr) (m c : Nat) (news : List Value) (hx : a.eval x = .slice A m c) (hr : Reads w B size A m news) (h1 : ∀ u ∈ news, u.oneCell' = true)
    (h63 : n + m ≤ maxLen) (hbytes : (n + m) * bytes ≤ 140737488355328) (hbase : base ≤ w.heap.size)
    (h : ∀ v' w', w'.ownsRow base e size v' (n + m) (xs ++ news) → w.grownBy w' v.ownBlock → (v'.ownBlock = v.ownBlock ∨ v'.ownBlock = some w.heap.size) → K (a.put o.dst v') w') :
    if Region.wanted o (yielded ops a.tmps) = true then Oper.wp P o a w K Q else E := by
  have hw : Region.wanted o (yielded ops a.tmps) = true := by simp [Region.wanted, hgd]
  rw [if_pos hw]
  exact wp_append_any w s x t ho base e i z size bytes ht hi hz hsize hby hzs hsz v n xs hs hown B A m c news hx hr h1 h63 hbytes hbase h
end

theorem rowIs_drewN {w : World} {b : Nat} {t : TypeId} {n : Nat} {f : Nat → Value} (h : w.rowIs b t n f) (k : Nat) : (w.drewN k).rowIs b t n f := h
theorem grown_trans {a b c : World} (h : Grown a b) (k : Grown b c) : Grown a c :=
  ⟨World.keptBut_trans h.1 k.1, fun x => (k.2.1 x).trans (h.2.1 x), Nat.le_trans h.2.2 k.2.2⟩

theorem only_drewN {a w : World} {row : Option Nat} (h : a.grownBy w row) (n : Nat) : a.grownBy (w.drewN n) row := ⟨h.os, h.tape, h.output, h.size, h.block⟩
theorem only_drew {a w : World} {row : Option Nat} (h : a.grownBy w row) : a.grownBy w.drew row := ⟨h.os, h.tape, h.output, h.size, h.block⟩
theorem only_alloc {a w : World} {row : Option Nat} (h : a.grownBy w row) (o : Obj) : a.grownBy (w.alloc o) row :=
  ⟨h.os, h.tape, h.output, Nat.le_trans h.size (by simp), fun i hi hne => (Below.heap_alloc w o i (Nat.lt_of_lt_of_le hi h.size)).trans (h.block i hi hne)⟩
theorem only_setCell {a w : World} {g : Nat} (h : a.grownBy w (some g)) {p : Addr} (hp : p.block = g ∨ a.heap.size ≤ p.block) (u : Value) : a.grownBy (w.setCell p u) (some g) :=
  ⟨h.os, h.tape, h.output, by simpa [World.setCell] using h.size, fun i hi hne => (Below.heap_setCell w p u i (by
    rintro rfl
    rcases hp with hp | hp
    · exact hne (by rw [hp])
    · omega)).trans (h.block i hi hne)⟩
theorem only_of_below {a w : World} (h : Below a.heap.size a w) (row : Option Nat) : a.grownBy w row := ⟨h.os, h.tape, h.output, h.size, fun i hi _ => h.block i hi⟩


theorem ret_int {k : IntKind} {a b : Int} (h : a = b) : Ending.returned (.int k a) = .returned (.int k b) := by rw [h]
theorem ret_bool {a b : Bool} (h : a = b) : Ending.returned (.bool a) = .returned (.bool b) := by rw [h]

/-- The slice value reads as the list xs, each element k cells, laid by enc; it lies in w. -/
def Row {α : Type} (enc : α → List Value) (k : Nat) (w : World) (v : Value) (xs : List α) : Prop :=
  ∃ A c, v = .slice A xs.length c ∧ xs.length ≤ c ∧ c ≤ 9223372036854775807 ∧
    (0 < xs.length → ∃ b off, A = some ⟨b, off, none⟩ ∧ b < w.heap.size ∧ ∀ i x, xs[i]? = some x → ∀ j u, (enc x)[j]? = some u → w.cell? ⟨b, off + i * k + j, none⟩ = some u)

theorem flat_length {α : Type} (enc : α → List Value) (k : Nat) (hk : ∀ x, (enc x).length = k) (xs : List α) : (xs.flatMap enc).length = xs.length * k := by
  induction xs with
  | nil => simp
  | cons x r ih => simp [hk, ih, Nat.add_mul, Nat.add_comm]

theorem flat_get {α : Type} (enc : α → List Value) (k : Nat) (hk : ∀ x, (enc x).length = k) : ∀ (xs : List α) (i j : Nat) (x : α), xs[i]? = some x → j < k → (xs.flatMap enc)[i * k + j]? = (enc x)[j]? := by
  intro xs
  induction xs with
  | nil => intro i j x h; simp at h
  | cons y r ih =>
    intro i j x h hj
    rw [List.flatMap_cons]
    cases i with
    | zero =>
      simp at h; subst h
      rw [List.getElem?_append_left (by rw [hk]; omega)]; simp
    | succ i =>
      simp at h
      rw [List.getElem?_append_right (by rw [hk, Nat.add_mul]; omega), hk, show (i + 1) * k + j - k = i * k + j by rw [Nat.add_mul]; omega]
      exact ih i j x h hj

section
variable {α : Type} {enc : α → List Value} {k : Nat} {w w' : World} {v : Value} {xs : List α}

theorem Row.below (h : Row enc k w v xs) (hb : Below w.heap.size w w') : Row enc k w' v xs := by
  obtain ⟨A, c, rfl, h1, h2, h3⟩ := h
  refine ⟨A, c, rfl, h1, h2, fun h0 => ?_⟩
  obtain ⟨b, off, rfl, hlt, hc⟩ := h3 h0
  exact ⟨b, off, rfl, Nat.lt_of_lt_of_le hlt hb.size, fun i x hx j u hu => (hb.cell (p := ⟨b, _, none⟩) hlt).trans (hc i x hx j u hu)⟩

theorem Row.nil (c : Nat) (hc : c ≤ 9223372036854775807) (A : Option Addr) : Row enc k w (.slice A 0 c) [] := ⟨A, c, rfl, by simp, hc, by simp⟩

theorem Row.reads (hk : ∀ x, (enc x).length = k) {A : Option Addr} {c n : Nat} (h : Row enc k w (.slice A n c) xs) : n = xs.length ∧ Reads w w.heap.size k A n (xs.flatMap enc) := by
  obtain ⟨A', c', hv, h1, h2, h3⟩ := h
  simp only [Value.slice.injEq] at hv
  obtain ⟨rfl, rfl, rfl⟩ := hv
  refine ⟨rfl, flat_length enc k hk xs, fun h0 => ?_⟩
  obtain ⟨b, off, rfl, hlt, hc⟩ := h3 h0
  refine ⟨_, rfl, hlt, fun j u hu => ?_⟩
  have hjl : j < xs.length * k := by
    have := (List.getElem?_eq_some_iff.1 hu).1
    rwa [flat_length enc k hk] at this
  have k0 : 0 < k := by
    rcases Nat.eq_zero_or_pos k with h | h
    · subst h; simp at hjl
    · exact h
  have hi : j / k < xs.length := Nat.div_lt_of_lt_mul (by rwa [Nat.mul_comm] at hjl)
  have hx : xs[j / k]? = some xs[j / k] := List.getElem?_eq_getElem hi
  have e : j / k * k + j % k = j := by rw [Nat.mul_comm]; exact Nat.div_add_mod j k
  have hu' : (enc xs[j / k])[j % k]? = some u := by
    rw [← flat_get enc k hk xs (j / k) (j % k) _ hx (Nat.mod_lt _ k0), e]; exact hu
  have := hc (j / k) _ hx (j % k) u hu'
  rw [Nat.add_assoc, e] at this
  have ea : (⟨b, off, none⟩ : Addr).add j = ⟨b, off + j, none⟩ := by simp [Addr.add]
  rw [ea]; exact this

/-- The call's own row of structs: it may be written and appended to. -/
def Own {α : Type} (enc : α → List Value) (k : Nat) (e : TypeId) (base : Nat) (w : World) (v : Value) (xs : List α) : Prop := w.ownsRow base e k v xs.length (xs.flatMap enc)

theorem Own.row {e : TypeId} {base : Nat} (hk : ∀ x, (enc x).length = k) (h : Own enc k e base w v xs) : Row enc k w v xs := by
  obtain ⟨hl, h⟩ := h
  rcases h with ⟨rfl, hn⟩ | ⟨g, cap, cur, rfl, hb, hh, hnc, hm, hs, ht⟩
  · have : xs = [] := List.eq_nil_of_length_eq_zero hn
    subst this
    exact Row.nil 0 (by omega) none
  · have hlt : g < w.heap.size := by
      rcases Nat.lt_or_ge g w.heap.size with h | h
      · exact h
      · rw [Array.getElem?_eq_none h] at hh; cases hh
    refine ⟨_, cap, rfl, hnc, hm, fun _ => ⟨g, 0, rfl, hlt, fun i x hx j u hu => ?_⟩⟩
    have hj : j < k := by have := (List.getElem?_eq_some_iff.1 hu).1; rwa [hk] at this
    have h1 := flat_get enc k hk xs i j x hx hj
    rw [hu, ← ht] at h1
    have hil := (List.getElem?_eq_some_iff.1 hx).1
    have hlt2 : i * k + j < xs.length * k := by
      have : (i + 1) * k ≤ xs.length * k := Nat.mul_le_mul_right k (by omega)
      rw [Nat.add_mul] at this; omega
    rw [List.getElem?_take_of_lt hlt2] at h1
    simp [World.cell?, hh]
    simpa using h1
end

theorem flat_set {α : Type} (enc : α → List Value) (k : Nat) (hk : ∀ x, (enc x).length = k) : ∀ (xs : List α) (i j : Nat) (x y : α) (u : Value), xs[i]? = some x → j < k → enc y = (enc x).set j u → (xs.flatMap enc).set (i * k + j) u = (xs.set i y).flatMap enc := by
  intro xs
  induction xs with
  | nil => intro i j x y u h; simp at h
  | cons z r ih =>
    intro i j x y u h hj he
    rw [List.flatMap_cons]
    cases i with
    | zero =>
      simp at h; subst h
      rw [List.set_append_left _ _ (by rw [hk]; omega), List.set_cons_zero, List.flatMap_cons, he]; simp
    | succ i =>
      simp at h
      rw [List.set_append_right _ _ (by rw [hk, Nat.add_mul]; omega), hk, show (i + 1) * k + j - k = i * k + j by rw [Nat.add_mul]; omega, List.set_cons_succ, List.flatMap_cons, ih i j x y u h hj he]

section
variable {α : Type} {enc : α → List Value} {k : Nat} {w w' : World} {v : Value} {xs : List α} {e : TypeId} {base : Nat}
theorem Own.form (h : Own enc k e base w v xs) (h0 : 0 < xs.length) : ∃ g cap, v = .slice (some ⟨g, 0, none⟩) xs.length cap ∧ base ≤ g ∧ g < w.heap.size ∧ xs.length ≤ cap ∧ cap ≤ 9223372036854775807 := by
  rcases h.2 with ⟨rfl, hn⟩ | ⟨g, cap, cur, rfl, hb, hh, hnc, hm, hs, ht⟩
  · omega
  · refine ⟨g, cap, rfl, hb, ?_, hnc, hm⟩
    rcases Nat.lt_or_ge g w.heap.size with h | h
    · exact h
    · rw [Array.getElem?_eq_none h] at hh; cases hh
theorem Own.cellAt (hk : ∀ x, (enc x).length = k) {g n cap : Nat} (h : Own enc k e base w (.slice (some ⟨g, 0, none⟩) n cap) xs) {i j : Nat} {x : α} {u : Value} (hx : xs[i]? = some x) (hu : (enc x)[j]? = some u) : w.cell? ⟨g, i * k + j, none⟩ = some u := by
  obtain ⟨A, c, hv, _, _, hc⟩ := h.row hk
  obtain ⟨b, off, hA, _, hcell⟩ := hc (by have := (List.getElem?_eq_some_iff.1 hx).1; omega)
  subst hA
  simp only [Value.slice.injEq, Option.some.injEq, Addr.mk.injEq, and_true] at hv
  obtain ⟨⟨rfl, rfl⟩, _, _⟩ := hv
  simpa using hcell i x hx j u hu
theorem Own.len {g n cap : Nat} (h : Own enc k e base w (.slice (some ⟨g, 0, none⟩) n cap) xs) : n = xs.length := by
  rcases h.2 with ⟨h', _⟩ | ⟨g', cap', cur, h', _⟩
  · simp at h'
  · simp only [Value.slice.injEq] at h'; exact h'.2.1
theorem Own.frozenAt {g n cap : Nat} (h : Own enc k e base w (.slice (some ⟨g, 0, none⟩) n cap) xs) (j : Nat) : w.frozen? ⟨g, j, none⟩ = false := by
  obtain rfl := h.len
  exact World.ownsRow.frozenAt h j
theorem Own.stored (hk : ∀ x, (enc x).length = k) {g n cap : Nat} (h : Own enc k e base w (.slice (some ⟨g, 0, none⟩) n cap) xs) {i j : Nat} {x y : α} {u : Value} (hx : xs[i]? = some x) (hj : j < k) (hy : enc y = (enc x).set j u) :
    Own enc k e base (w.setCell ⟨g, i * k + j, none⟩ u) (.slice (some ⟨g, 0, none⟩) n cap) (xs.set i y) := by
  obtain rfl := h.len
  have := (World.ownsRow.stored h (i * k + j) u).1
  unfold Own
  rw [List.length_set, ← flat_set enc k hk xs i j x y u hx hj hy]
  exact this
theorem Own.lower {base' : Nat} (h : Own enc k e base w v xs) (hb : base' ≤ base) : Own enc k e base' w v xs := by
  obtain ⟨h1, h2⟩ := h
  refine ⟨h1, ?_⟩
  rcases h2 with h2 | ⟨g, cap, cur, rfl, hg, r⟩
  · exact .inl h2
  · exact .inr ⟨g, cap, cur, rfl, by omega, r⟩
theorem Own.lt (h : Own enc k e base w v xs) : ∀ g, v.ownBlock = some g → base ≤ g := fun g hg => (World.ownsRow.lt h g hg).1
theorem Own.alloc (h : Own enc k e base w v xs) (o : Obj) : Own enc k e base (w.alloc o) v xs := World.ownsRow.alloc h o
theorem Own.kept {row : Option Nat} (h : Own enc k e base w v xs) (hg : w.grownBy w' row) (hne : v.ownBlock = none ∨ v.ownBlock ≠ row) : Own enc k e base w' v xs := World.ownsRow.kept h hg hne
theorem Own.below (h : Own enc k e base w v xs) (hb : Below w.heap.size w w') : Own enc k e base w' v xs :=
  h.kept (row := none) ⟨hb.os, hb.tape, hb.output, hb.size, fun i hi _ => hb.block i hi⟩ (by cases hv : v.ownBlock <;> simp)
theorem Own.drewN (h : Own enc k e base w v xs) (n : Nat) : Own enc k e base (w.drewN n) v xs := h
theorem Own.snoc {n : Nat} {v' : Value} {x : α} (h : w'.ownsRow base e k v' (n + 1) (xs.flatMap enc ++ enc x)) (hn : n = xs.length) : Own enc k e base w' v' (xs ++ [x]) := by
  subst hn; unfold Own; simpa using h
end

theorem reads_new (w : World) (cs : List Value) (e : TypeId) (k : Nat) (hk : cs.length = k) : Reads (w.alloc (.cells cs.toArray e)) (w.heap.size + 1) k (some ⟨w.heap.size, 0, none⟩) 1 cs := by
  refine ⟨by simp [hk], fun _ => ⟨_, rfl, by simp, fun j u hu => ?_⟩⟩
  have ea : (⟨w.heap.size, 0, none⟩ : Addr).add j = ⟨w.heap.size, j, none⟩ := by unfold Addr.add; split <;> simp_all
  rw [ea, cell_of_row _ w.heap.size j cs.toArray e (0, 0) (heap_alloc_new w _)]
  simpa using hu

theorem own_lit {α : Type} {enc : α → List Value} {k : Nat} (hk : ∀ x, (enc x).length = k) (w : World) (e : TypeId) (base : Nat) (xs : List α) (hb : base ≤ w.heap.size) (hl : xs.length ≤ 1000000) :
    Own enc k e base (w.alloc (.cells (xs.flatMap enc).toArray e)) (.slice (some ⟨w.heap.size, 0, none⟩) xs.length xs.length) xs :=
  World.ownsRow_lit (base := base) (e := e) (size := k) w (xs.flatMap enc).toArray xs.length hb (by unfold maxLen; omega) (by simp [flat_length enc k hk])
theorem row_lit {α : Type} {enc : α → List Value} {k : Nat} (hk : ∀ x, (enc x).length = k) (w : World) (e : TypeId) (xs : List α) (hl : xs.length ≤ 1000000) :
    Row enc k (w.alloc (.cells (xs.flatMap enc).toArray e)) (.slice (some ⟨w.heap.size, 0, none⟩) xs.length xs.length) xs :=
  (own_lit hk w e w.heap.size xs (Nat.le_refl _) hl).row hk
theorem row_lit_at {α : Type} {enc : α → List Value} {k : Nat} (hk : ∀ x, (enc x).length = k) (w : World) (e : TypeId) (b : Nat) (xs : List α) (hl : xs.length ≤ 1000000) (hb : b = w.heap.size) :
    Row enc k (w.alloc (.cells (xs.flatMap enc).toArray e)) (.slice (some ⟨b, 0, none⟩) xs.length xs.length) xs := by
  subst hb; exact row_lit hk w e xs hl
theorem Row.drewN {α : Type} {enc : α → List Value} {k : Nat} {w : World} {v : Value} {xs : List α} (h : Row enc k w v xs) (n : Nat) : Row enc k (w.drewN n) v xs := h
theorem Row.drew {α : Type} {enc : α → List Value} {k : Nat} {w : World} {v : Value} {xs : List α} (h : Row enc k w v xs) : Row enc k w.drew v xs := h

theorem reads_new_at (w : World) (cs : List Value) (e : TypeId) (k b : Nat) (hk : cs.length = k) (hb : b = w.heap.size) : Reads (w.alloc (.cells cs.toArray e)) (w.heap.size + 1) k (some ⟨b, 0, none⟩) 1 cs := by
  subst hb; exact reads_new w cs e k hk
theorem zeroCells_size (z : Array Value) (m : Nat) : (Builtin.zeroCells z m).size = m * z.size := by simp [Builtin.zeroCells]
/-- clear of the end of a row of the call's own: what lies ahead of it stays. -/
theorem run_clear_rows {P : Program} (t e e' ty : TypeId) (z : Value) (ht : P.underlying t = some (.slice e)) (hv : ∀ w, (zeroValue e).run P w = .ok z w) (w : World) (g o m c : Nat) (cur : Array Value)
    (hh : w.heap[g]? = some (.cells cur e' (0, 0))) (hm : 0 < m) (hle : o + m * z.cells.size ≤ cur.size) (h1 : ∀ u ∈ (Builtin.zeroCells z.cells m).toList, u.oneCell' = true) :
    ∃ (cur' : Array Value) (w' : World), (Builtin.clear_ #[t] ty #[.slice (some ⟨g, o, none⟩) m c]).run P w = .ok (.tuple #[]) w' ∧ w'.heap[g]? = some (.cells cur' e' (0, 0)) ∧ cur'.size = cur.size ∧ cur'.toList.take o = cur.toList.take o ∧ w.grownBy w' (some g) := by
  have hs := run_storeCells_at (P := P) g o e' (Builtin.zeroCells z.cells m).toList 0 cur w hh (by rw [Array.length_toList, zeroCells_size]; omega) h1
  simp only [Nat.add_zero] at hs
  obtain ⟨m', rfl⟩ : ∃ m', m = m' + 1 := ⟨m - 1, by omega⟩
  refine ⟨_, _, by simp [Builtin.clear_, run_underlying ht, hv, hs]; rfl, setRow_heap w g cur _ e' _ hh, ?_, ?_, ?_⟩
  · simp [zeroCells_size]; omega
  · have ho : o ≤ cur.size := Nat.le_trans (Nat.le_add_right _ _) hle
    rw [List.toList_toArray, List.take_append_of_le_length (by simp; omega), List.take_take, Nat.min_self]
  · refine ⟨rfl, rfl, rfl, by simp [World.setRow], fun k _ hne => ?_⟩
    have hk : k ≠ g := fun e => hne (by rw [e])
    simp [World.setRow, Array.getElem?_modify]
    intro h; exact absurd h.symm hk

theorem flat_take {α : Type} (enc : α → List Value) (k : Nat) (hk : ∀ x, (enc x).length = k) : ∀ (xs : List α) (i : Nat), (xs.flatMap enc).take (i * k) = (xs.take i).flatMap enc
  | [], i => by simp
  | x :: r, 0 => by simp
  | x :: r, i + 1 => by
    rw [List.flatMap_cons, List.take_succ_cons, List.flatMap_cons, ← flat_take enc k hk r i, Nat.add_mul, Nat.one_mul, Nat.add_comm, List.take_append, hk]
    simp [hk, List.take_of_length_le]
/-- A row of the call's own, cleared from element i on and cut there. -/
theorem Own.cleared {α : Type} {enc : α → List Value} {k : Nat} {e base : Nat} {P : Program} (hk : ∀ x, (enc x).length = k) (t : TypeId) (z : Value) (ht : P.underlying t = some (.slice e)) (hv : ∀ w, (zeroValue e).run P w = .ok z w) (hzk : z.cells.size = k)
    (h1 : ∀ m, ∀ u ∈ (Builtin.zeroCells z.cells m).toList, u.oneCell' = true) {w : World} {g n cap : Nat} {xs : List α} (h : Own enc k e base w (.slice (some ⟨g, 0, none⟩) n cap) xs) (i : Nat) (hi : i < n) :
    ∃ w', (∀ ty, (Builtin.clear_ #[t] ty #[.slice (some ⟨g, i * k, none⟩) (n - i) (cap - i)]).run P w = .ok (.tuple #[]) w') ∧ Own enc k e base w' (.slice (some ⟨g, 0, none⟩) i cap) (xs.take i) ∧ w.grownBy w' (some g) := by
  obtain rfl := h.len
  rcases h.2 with ⟨h', _⟩ | ⟨g', cap', cur, h', hb, hg, hnc, hcm, hcs, htake⟩
  · simp at h'
  · simp only [Value.slice.injEq, Option.some.injEq, Addr.mk.injEq, and_true, true_and] at h'
    obtain ⟨rfl, rfl⟩ := h'
    have hle : i * k + (xs.length - i) * z.cells.size ≤ cur.size := by
      rw [hzk, ← Nat.add_mul, hcs]; exact Nat.mul_le_mul_right k (by omega)
    obtain ⟨cur', w', hr, hh', hs', ht', hgr⟩ := run_clear_rows (P := P) t e e 0 z ht hv w g (i * k) (xs.length - i) (cap - i) cur hg (by omega) hle (h1 _)
    refine ⟨w', fun ty => hr, ?_, hgr⟩
    have hlen : (xs.take i).length = i := by simp; omega
    refine ⟨?_, .inr ⟨g, cap, cur', by rw [hlen], hb, hh', by omega, hcm, by rw [hs', hcs], ?_⟩⟩
    · rw [flat_length enc k hk]
    · rw [hlen, ht', ← flat_take enc k hk, ← htake, List.take_take, Nat.min_eq_left (Nat.mul_le_mul_right k (by omega))]

/-- Draws and new blocks, nothing else. -/
def Lays (w w' : World) : Prop := ∃ q os, w' = Go.Sort.grow (w.drewN q) os
theorem Lays.refl (w : World) : Lays w w := ⟨0, #[], by simp [World.drewN]⟩
theorem Lays.alloc {w w' : World} (h : Lays w w') (o : Obj) : Lays w (w'.alloc o) := by
  obtain ⟨q, os, rfl⟩ := h
  exact ⟨q, os ++ #[o], by rw [Go.Sort.alloc_eq_grow, Go.Sort.grow_grow]⟩
theorem Lays.drewN {w w' : World} (h : Lays w w') (n : Nat) : Lays w (w'.drewN n) := by
  obtain ⟨q, os, rfl⟩ := h
  exact ⟨q + n, os, by simp [Go.Sort.grow, World.drewN, Nat.add_assoc]⟩
theorem Lays.drew {w w' : World} (h : Lays w w') : Lays w w'.drew := h.drewN 1
theorem Lays.trans {a b c : World} (h : Lays a b) (k : Lays b c) : Lays a c := by
  obtain ⟨q, os, rfl⟩ := h
  obtain ⟨q', os', rfl⟩ := k
  exact ⟨q + q', os ++ os', by simp [Go.Sort.grow, World.drewN, Nat.add_assoc]⟩
theorem Lays.below {w w' : World} (h : Lays w w') : Below w.heap.size w w' := by
  obtain ⟨q, os, rfl⟩ := h
  refine ⟨rfl, rfl, rfl, by simp [Go.Sort.grow, World.drewN], fun k hk => ?_⟩
  simp [Go.Sort.grow, World.drewN, Array.getElem?_append, hk]

theorem cell_lt_alloc {w : World} {b o : Nat} {v : Value} {ob : Obj} (h : w.cell? ⟨b, o, none⟩ = some v) : (w.alloc ob).cell? ⟨b, o, none⟩ = some v := by
  have hb : b < w.heap.size := by
    rcases Nat.lt_or_ge b w.heap.size with h' | h'
    · exact h'
    · simp [World.cell?, Array.getElem?_eq_none h'] at h
  rw [World.cell?_alloc_lt w ob ⟨b, o, none⟩ hb]; exact h

theorem run_makeMap_hint {P : Program} (t k e : TypeId) (kd : IntKind) (n : Int) (ht : P.underlying t = some (.map k e)) (w : World) :
    (Instr.makeMap t (some (.int kd n))).run P w = .ok (.map (some w.heap.size)) (w.alloc (.map #[] 0)) := by
  simp [Instr.makeMap, run_underlying ht]; rfl

theorem bcell {W w1 : World} (hb : Below W.heap.size W w1) : (∀ b o, b < W.heap.size → w1.cell? ⟨b, o, none⟩ = W.cell? ⟨b, o, none⟩) ∧ (∀ b o, b < W.heap.size → w1.frozen? ⟨b, o, none⟩ = W.frozen? ⟨b, o, none⟩) :=
  ⟨fun b o h => hb.cell (p := ⟨b, o, none⟩) h, fun b o h => hb.frozen (p := ⟨b, o, none⟩) h⟩
theorem Below.step {a b c : World} (h : Below a.heap.size a b) (k : Below b.heap.size b c) : Below a.heap.size a c := h.trans (k.mono h.size)

end Go.Proofs.Ytbglmocgijlomaa

/- A run never takes back a draw. No program in sight. -/
namespace Go.Proofs.Ytbglmocgijlomaa
open Go.RowKit

theorem ask_drawn {α : Type} : ∀ (k : Ask α) (w : World), w.drawn ≤ (w.ask k).2.drawn
  | .done a, w => Nat.le_refl _
  | .ask what range k, w => by
    simp only [World.ask]
    split
    · exact ask_drawn (k 0) w
    · exact Nat.le_trans (Nat.le_succ _) (ask_drawn (k _) { w with drawn := w.drawn + 1 })
theorem sys_drawn (w : World) (c : Sys) : w.drawn ≤ (w.sys c).2.drawn := by
  unfold World.sys
  have h := ask_drawn (Kernel.perform c w.os) w
  generalize w.ask (Kernel.perform c w.os) = r at *
  split
  · exact Nat.le_refl _
  · exact h
theorem viewStore_drawn {P : Program} {w w' : World} {a k : Addr} {u : TypeId} {v : Value} {b : Bool} {l : List Addr} (h : w.viewStore P a u k v b = .ok (w', l)) : w'.drawn = w.drawn := by
  unfold World.viewStore at h
  simp only [bind, Except.bind, pure, Except.pure] at h
  repeat' split at h
  all_goals first | (cases h; done) | skip
  all_goals first | (cases h; rfl) | skip
theorem farStore_drawn {P : Program} {w w' : World} {a : Addr} {v : Value} {b : Bool} {l : List Addr} (hf : w.farStore P a v b = .ok (w', l)) : w'.drawn = w.drawn := by
  unfold World.farStore at hf
  split at hf
  · split at hf
    · rename_i hv
      cases hf
      exact viewStore_drawn hv
    · cases hf
  · cases hf
theorem run_drawn {P : Program} {α : Type} : ∀ (s : Sem α) (w w' : World) (x : α), s.run P w = .ok x w' → w.drawn ≤ w'.drawn
  | .pure a, w, w', x, h => by cases h; exact Nat.le_refl _
  | .load m a k, w, w', x, h => by
    simp only [Sem.run] at h
    split at h
    · exact run_drawn (k _) w w' x h
    · split at h
      · exact run_drawn (k _) w w' x h
      · cases h
  | .store m a v k, w, w', x, h => by
    cases v
    all_goals simp only [Sem.run] at h
    all_goals first | (cases h; done) | skip
    all_goals
      split at h
      · split at h
        · cases h
        · exact run_drawn k (World.setCell w a _) w' x h
      · split at h
        · rename_i w1 l hf
          rw [← farStore_drawn hf]
          exact run_drawn k w1 w' x h
        · cases h
  | .new o k, w, w', x, h => by
    simp only [Sem.run] at h
    exact run_drawn (k _) { w with heap := w.heap.push o } w' x h
  | .shape r k, w, w', x, h => by simp only [Sem.run] at h; exact run_drawn (k _) w w' x h
  | .freeze a n k, w, w', x, h => by
    simp only [Sem.run] at h
    have := run_drawn k _ w' x h
    unfold World.freeze at this
    split at this <;> exact this
  | .frozen a k, w, w', x, h => by simp only [Sem.run] at h; exact run_drawn (k _) w w' x h
  | .getObj r k, w, w', x, h => by
    simp only [Sem.run] at h
    split at h
    · cases h
    · exact run_drawn (k _) w w' x h
    · cases h
  | .setObj r o k, w, w', x, h => by
    simp only [Sem.run] at h
    split at h
    · cases h
    · exact run_drawn k { w with heap := w.heap.setIfInBounds r o } w' x h
    · cases h
  | .choose q k, w, w', x, h => by
    simp only [Sem.run] at h
    split at h
    · exact run_drawn (k 0) w w' x h
    · exact Nat.le_trans (Nat.le_succ _) (run_drawn (k _) { w with drawn := w.drawn + 1 } w' x h)
  | .sys c k, w, w', x, h => by
    simp only [Sem.run] at h
    exact Nat.le_trans (sys_drawn w c) (run_drawn (k _) _ w' x h)
  | .program k, w, w', x, h => by simp only [Sem.run] at h; exact run_drawn (k _) w w' x h
  | .mark m k, w, w', x, h => by simp only [Sem.run] at h; exact run_drawn k w w' x h
  | .halt h', w, w', x, h => by cases h
end Go.Proofs.Ytbglmocgijlomaa

/- The abstract values of the engine and what they say of memory. No program in sight. -/
namespace Go.Proofs.Ytbglmocgijlomaa
open Go.RowKit

/-- A closed value: it names no memory of the call's own. -/
inductive CV where
  | int (k : IntKind) (n : Int)
  | bool (b : Bool)
  | raw (v : Value)
  | nil
  | sl (k : Nat) (es : List (List CV))

/-- A value of the abstract walk. -/
inductive SV where
  | c (v : CV)
  | agg (cs : List SV)
  | bp (id j : Nat)
  | ep (id k i j : Nat)
  | ss (id k lo : Nat)
  | osl (id : Nat)
  | rp (cs : List CV)
  | mp (id : Nat)
  | fn (f : Nat) (caps : List SV)
  | tup (vs : List SV)
  | none_
  | und

/-- An object of the call's own. -/
inductive Ob where
  | box (cs : List SV)
  | row (e k : Nat) (es : List (List CV))
  | map (kn : Nat) (ag : Bool) (kv : List (List Int × List CV))
  | dead

def SV.cell : SV → Bool
  | .agg _ | .tup _ | .none_ | .und => false
  | _ => true
def Ob.live : Ob → Bool
  | .dead => false
  | _ => true

def look {α : Type} : List (Nat × α) → Nat → Option α
  | [], _ => none
  | (i, x) :: r, j => match Nat.beq i j with
    | true => some x
    | false => look r j
theorem look_cons {α : Type} (i j : Nat) (x : α) (r : List (Nat × α)) : look ((i, x) :: r) j = if i = j then some x else look r j := by
  by_cases h : i = j
  · subst h; simp [look]
  · have hb : Nat.beq i j = false := by
      cases hb : Nat.beq i j with
      | false => rfl
      | true => exact absurd (Nat.eq_of_beq_eq_true hb) h
    rw [if_neg h]
    show (match Nat.beq i j with | true => some x | false => look r j) = _
    rw [hb]

structure St where
  env : List (Nat × SV)
  heap : List (Nat × Ob)
  nx : Nat

abbrev Iota := Nat → Option (Nat × Nat)

/-- The blocks that a stable reading must not touch. -/
def owned (F : Nat → Prop) (ι : Iota) (H : List (Nat × Ob)) (b : Nat) : Prop :=
  F b ∨ ∃ id o c, look H id = some o ∧ o.live = true ∧ ι id = some (b, c)

/-- A value in memory reads as a closed value. -/
inductive RepC (w : World) (own : Nat → Prop) : CV → Value → Prop
  | int (k : IntKind) (n : Int) : RepC w own (.int k n) (.int k n)
  | bool (b : Bool) : RepC w own (.bool b) (.bool b)
  | raw (v : Value) (h : v.oneCell' = true) : RepC w own (.raw v) v
  | nil : RepC w own .nil (.slice none 0 0)
  | sl (k : Nat) (es : List (List CV)) (A : Option Addr) (c : Nat) (xs : List Value) (hk : ∀ e ∈ es, e.length = k) (h1 : es.length ≤ c) (h2 : c ≤ 9223372036854775807) (hl : xs.length = es.length * k)
      (hA : 0 < es.length → ∃ b off, A = some ⟨b, off, none⟩ ∧ b < w.heap.size ∧ ¬ own b ∧ ∀ (j : Nat) (u : Value), xs[j]? = some u → w.cell? ⟨b, off + j, none⟩ = some u)
      (hr : ∀ (i : Nat) (c : CV) (v : Value), es.flatten[i]? = some c → xs[i]? = some v → RepC w own c v) : RepC w own (.sl k es) (.slice A es.length c)

def ownVal : Option (Nat × Nat) → Nat → Value
  | none, _ => .slice none 0 0
  | some (b, c), n => .slice (some ⟨b, 0, none⟩) n c

/-- A value of the frame reads as an abstract value. -/
inductive Rep (w : World) (own : Nat → Prop) (ι : Iota) (H : List (Nat × Ob)) (nx : Nat) : SV → Value → Prop
  | c (cv : CV) (v : Value) (h : RepC w own cv v) : Rep w own ι H nx (.c cv) v
  | agg (cs : List SV) (vs : List Value) (hl : cs.length = vs.length) (hc : ∀ s ∈ cs, s.cell = true) (h : ∀ (i : Nat) (s : SV) (v : Value), cs[i]? = some s → vs[i]? = some v → Rep w own ι H nx s v) : Rep w own ι H nx (.agg cs) (.agg vs.toArray)
  | bp (id j : Nat) (v : Value) (hx : id < nx) (h1 : v.oneCell' = true) (h : ∀ cs, look H id = some (.box cs) → ∃ b c, ι id = some (b, c) ∧ v = .pointer (some ⟨b, j, none⟩)) : Rep w own ι H nx (.bp id j) v
  | ep (id k i j : Nat) (v : Value) (hx : id < nx) (h1 : v.oneCell' = true) (h : ∀ e k' es, look H id = some (.row e k' es) → ∃ b c, ι id = some (b, c) ∧ v = .pointer (some ⟨b, i * k + j, none⟩)) : Rep w own ι H nx (.ep id k i j) v
  | ss (id k lo : Nat) (v : Value) (hx : id < nx) (h1 : v.oneCell' = true) (h : ∀ e k' es, look H id = some (.row e k' es) → ∃ b c, ι id = some (b, c) ∧ v = .slice (some ⟨b, lo * k, none⟩) (es.length - lo) (c - lo)) : Rep w own ι H nx (.ss id k lo) v
  | osl (id : Nat) (v : Value) (hx : id < nx) (h1 : v.oneCell' = true) (h : ∀ e k es, look H id = some (.row e k es) → v = ownVal (ι id) es.length) : Rep w own ι H nx (.osl id) v
  | rp (cs : List CV) (b off : Nat) (xs : List Value) (hl : xs.length = cs.length) (hb : b < w.heap.size) (ho : ¬ own b) (hx : ∀ (j : Nat) (u : Value), xs[j]? = some u → w.cell? ⟨b, off + j, none⟩ = some u)
      (h : ∀ (i : Nat) (c : CV) (v : Value), cs[i]? = some c → xs[i]? = some v → RepC w own c v) : Rep w own ι H nx (.rp cs) (.pointer (some ⟨b, off, none⟩))
  | mp (id : Nat) (v : Value) (hx : id < nx) (h1 : v.oneCell' = true) (h : ∀ kn ag kv, look H id = some (.map kn ag kv) → ∃ b c, ι id = some (b, c) ∧ v = .map (some b)) : Rep w own ι H nx (.mp id) v
  | fn (f : Nat) (caps : List SV) (vs : List Value) (hl : caps.length = vs.length) (h : ∀ (i : Nat) (s : SV) (v : Value), caps[i]? = some s → vs[i]? = some v → Rep w own ι H nx s v) : Rep w own ι H nx (.fn f caps) (.func (.func f) #[] vs.toArray)
  | tup (ss : List SV) (vs : List Value) (hl : ss.length = vs.length) (h : ∀ (i : Nat) (s : SV) (v : Value), ss[i]? = some s → vs[i]? = some v → Rep w own ι H nx s v) : Rep w own ι H nx (.tup ss) (.tuple vs.toArray)
  | none_ (v : Value) : Rep w own ι H nx .none_ v
  | und : Rep w own ι H nx .und undef

theorem RepC.one {w : World} {own : Nat → Prop} {c : CV} {v : Value} (h : RepC w own c v) : v.oneCell' = true := by
  cases h <;> first | assumption | rfl
theorem Rep.one {w : World} {own : Nat → Prop} {ι : Iota} {H : List (Nat × Ob)} {nx : Nat} {s : SV} {v : Value} (h : Rep w own ι H nx s v) (hc : s.cell = true) : v.oneCell' = true := by
  cases h <;> first | assumption | rfl | (simp [SV.cell] at hc; done) | skip
  rename_i h; exact h.one

/-- What a step keeps of stable memory. -/
structure Keeps (w w' : World) (own own' : Nat → Prop) : Prop where
  size : w.heap.size ≤ w'.heap.size
  cell : ∀ (b o : Nat) (u : Value), b < w.heap.size → ¬ own b → w.cell? ⟨b, o, none⟩ = some u → w'.cell? ⟨b, o, none⟩ = some u
  own : ∀ b, b < w.heap.size → own' b → own b

theorem Keeps.of_below {w w' : World} (own : Nat → Prop) (h : Below w.heap.size w w') : Keeps w w' own own :=
  ⟨h.size, fun b o _ hb _ hc => (h.cell (p := ⟨b, o, none⟩) hb).trans hc, fun _ _ h => h⟩

theorem RepC.keep {w w' : World} {own own' : Nat → Prop} (k : Keeps w w' own own') {c : CV} {v : Value} (h : RepC w own c v) : RepC w' own' c v := by
  induction h with
  | int k n => exact .int k n
  | bool b => exact .bool b
  | raw v h => exact .raw v h
  | nil => exact .nil
  | sl kk es A c xs hk h1 h2 hl hA hr ih =>
    refine .sl kk es A c xs hk h1 h2 hl (fun h0 => ?_) ih
    obtain ⟨b, off, rfl, hb, ho, hx⟩ := hA h0
    exact ⟨b, off, rfl, Nat.lt_of_lt_of_le hb k.size, fun h => ho (k.own b hb h), fun j u hu => k.cell b _ u hb ho (hx j u hu)⟩

/-- The heap's rows keep their shape, and new ids are new. -/
structure Shapes (ι ι' : Iota) (H H' : List (Nat × Ob)) (nx nx' : Nat) : Prop where
  le : nx ≤ nx'
  box : ∀ id cs, id < nx → look H' id = some (.box cs) → ι' id = ι id ∧ ∃ cs', look H id = some (.box cs')
  row : ∀ id e k es, id < nx → look H' id = some (.row e k es) → ι' id = ι id ∧ ∃ e' k' es', look H id = some (.row e' k' es') ∧ es'.length = es.length
  map : ∀ id kn ag kv, id < nx → look H' id = some (.map kn ag kv) → ι' id = ι id ∧ ∃ kn' ag' kv', look H id = some (.map kn' ag' kv')

theorem Shapes.refl (ι : Iota) (H : List (Nat × Ob)) (nx : Nat) : Shapes ι ι H H nx nx :=
  ⟨Nat.le_refl _, fun _ cs _ h => ⟨rfl, cs, h⟩, fun _ e k es _ h => ⟨rfl, e, k, es, h, rfl⟩, fun _ kn ag kv _ h => ⟨rfl, kn, ag, kv, h⟩⟩

theorem Rep.keep {w w' : World} {own own' : Nat → Prop} {ι ι' : Iota} {H H' : List (Nat × Ob)} {nx nx' : Nat} (k : Keeps w w' own own') (sh : Shapes ι ι' H H' nx nx') {s : SV} {v : Value} (h : Rep w own ι H nx s v) : Rep w' own' ι' H' nx' s v := by
  induction h with
  | c cv v h => exact .c cv v (h.keep k)
  | agg cs vs hl hc h ih => exact .agg cs vs hl hc ih
  | bp id j v hx h1 h =>
    refine .bp id j v (Nat.lt_of_lt_of_le hx sh.le) h1 fun cs hh => ?_
    obtain ⟨e, cs', h'⟩ := sh.box id cs hx hh
    rw [e]; exact h cs' h'
  | ep id kk i j v hx h1 h =>
    refine .ep id kk i j v (Nat.lt_of_lt_of_le hx sh.le) h1 fun e k' es hh => ?_
    obtain ⟨e0, e', k'', es', h', _⟩ := sh.row id e k' es hx hh
    rw [e0]; exact h _ _ _ h'
  | ss id kk lo v hx h1 h =>
    refine .ss id kk lo v (Nat.lt_of_lt_of_le hx sh.le) h1 fun e k' es hh => ?_
    obtain ⟨e0, e', k'', es', h', hl⟩ := sh.row id e k' es hx hh
    rw [e0, ← hl]; exact h _ _ _ h'
  | osl id v hx h1 h =>
    refine .osl id v (Nat.lt_of_lt_of_le hx sh.le) h1 fun e k' es hh => ?_
    obtain ⟨e0, e', k'', es', h', hl⟩ := sh.row id e k' es hx hh
    rw [e0, ← hl]; exact h _ _ _ h'
  | rp cs b off xs hl hb ho hx h =>
    exact .rp cs b off xs hl (Nat.lt_of_lt_of_le hb k.size) (fun h => ho (k.own b hb h)) (fun j u hu => k.cell b _ u hb ho (hx j u hu)) fun i c v hc hv => (h i c v hc hv).keep k
  | mp id v hx h1 h =>
    refine .mp id v (Nat.lt_of_lt_of_le hx sh.le) h1 fun kn ag kv hh => ?_
    obtain ⟨e, kn', ag', kv', h'⟩ := sh.map id kn ag kv hx hh
    rw [e]; exact h kn' ag' kv' h'
  | fn f caps vs hl h ih => exact .fn f caps vs hl ih
  | tup ss vs hl h ih => exact .tup ss vs hl ih
  | none_ v => exact .none_ v
  | und => exact .und

def CV.val : CV → Value
  | .int k n => .int k n
  | .bool b => .bool b
  | .raw v => v
  | .nil => .slice none 0 0
  | .sl _ _ => .tuple #[]
def CV.scalar : CV → Bool
  | .int _ _ | .bool _ => true
  | _ => false

/-- A map's key (0: a number, n: a struct of n numbers) and what it holds (numbers; a struct or one). -/
def encKey (kn : Nat) (k : List Int) : Value :=
  match kn, k with
  | 0, [n] => .int .i64 n
  | 0, _ => undef
  | _, k => .agg (k.map (Value.int .i64)).toArray
def keyLen (kn : Nat) (k : List Int) : Bool :=
  match kn with
  | 0 => Nat.beq k.length 1
  | n + 1 => Nat.beq k.length (n + 1)
def encCell (ag : Bool) (l : List CV) : Value :=
  match ag, l with
  | true, l => .agg (l.map CV.val).toArray
  | false, [c] => c.val
  | false, _ => undef

/-- Whether it is kept in mind that the tape is only read on (true for callers of sorts with functions, false for callers of what says nothing of the tape). -/
def drF : Bool := false
def DrLe (w w' : World) : Prop := drF = true → w.drawn ≤ w'.drawn
theorem DrLe.refl (w : World) : DrLe w w := fun _ => Nat.le_refl _
theorem DrLe.trans {a b c : World} (h : DrLe a b) (h' : DrLe b c) : DrLe a c := fun e => Nat.le_trans (h e) (h' e)
/-- The entries' stamps are below the clock, and each has its own. -/
def Born (arr : Array MapEntry) (ck : Nat) : Prop := (∀ x ∈ arr.toList, x.born < ck) ∧ (arr.toList.map (·.born)).Nodup
/-- What an object of the call's own says of memory. -/
def ObRep (w : World) (own : Nat → Prop) (ι : Iota) (H : List (Nat × Ob)) (nx base id : Nat) : Ob → Prop
  | .box cs => ∃ b c cur e, ι id = some (b, c) ∧ base ≤ b ∧ w.heap[b]? = some (.cells cur e (0, 0)) ∧ cur.size = cs.length ∧ ∀ (j : Nat) (s : SV) (u : Value), cs[j]? = some s → cur[j]? = some u → s.cell = true ∧ Rep w own ι H nx s u
  | .row e k es => ∃ xs, w.ownsRow base e k (ownVal (ι id) es.length) es.length xs ∧ (∀ r ∈ es, r.length = k) ∧ ∀ (i : Nat) (c : CV) (v : Value), es.flatten[i]? = some c → xs[i]? = some v → RepC w own c v
  | .map kn ag kv => ∃ b c arr ck, ι id = some (b, c) ∧ base ≤ b ∧ (w.heap[b]? = some (.map arr ck) ∧ Born arr ck) ∧ arr.toList.map (fun e => (e.key, e.val)) = kv.map (fun p => (encKey kn p.1, encCell ag p.2)) ∧ ∀ p ∈ kv, keyLen kn p.1 = true ∧ (p.2.all CV.scalar && (ag || Nat.beq p.2.length 1)) = true
  | .dead => True

/-- The blocks that are to be spared (F), and those that were given to the call to be written (G). -/
structure Fr where
  F : Nat → Prop
  G : Nat → Prop
  n0 : Nat
  pin : Nat → Option (Nat × Nat)
instance : Coe Fr (Nat → Prop) := ⟨Fr.F⟩
/-- Of what was there nothing has turned but what was given. -/
structure BelowG (F : Fr) (w w' : World) : Prop where
  os : w'.os = w.os
  tape : w'.tape = w.tape
  output : w'.output = w.output
  size : w.heap.size ≤ w'.heap.size
  block : ∀ k, k < w.heap.size → ¬ F.G k → w'.heap[k]? = w.heap[k]?
theorem BelowG.refl (F : Fr) (w : World) : BelowG F w w := ⟨rfl, rfl, rfl, Nat.le_refl _, fun _ _ _ => rfl⟩
theorem BelowG.grow {F : Fr} {w0 w w' : World} (h : BelowG F w0 w) (hb : Below w.heap.size w w') : BelowG F w0 w' :=
  ⟨hb.os.trans h.os, hb.tape.trans h.tape, hb.output.trans h.output, Nat.le_trans h.size hb.size, fun k hk hg => (hb.block k (Nat.lt_of_lt_of_le hk h.size)).trans (h.block k hk hg)⟩
theorem BelowG.grown {F : Fr} {w0 w w' : World} {row : Option Nat} (h : BelowG F w0 w) (hg : w.grownBy w' row) (hr : ∀ k, row = some k → w0.heap.size ≤ k ∨ F.G k) : BelowG F w0 w' :=
  ⟨hg.os.trans h.os, hg.tape.trans h.tape, hg.output.trans h.output, Nat.le_trans h.size hg.size, fun k hk hng => (hg.block k (Nat.lt_of_lt_of_le hk h.size) (fun e => by
    rcases hr k e.symm with h1 | h1
    · omega
    · exact hng h1)).trans (h.block k hk hng)⟩
theorem BelowG.wide {F F' : Fr} {w0 w w' : World} (h : BelowG F w0 w) (h' : BelowG F' w w') (hG : ∀ k, k < w0.heap.size → F'.G k → F.G k) : BelowG F w0 w' :=
  ⟨h'.os.trans h.os, h'.tape.trans h.tape, h'.output.trans h.output, Nat.le_trans h.size h'.size, fun k hk hng => (h'.block k (Nat.lt_of_lt_of_le hk h.size) (fun e => hng (hG k hk e))).trans (h.block k hk hng)⟩
theorem BelowG.below {F : Fr} {w w' : World} (h : BelowG F w w') (hG : ∀ k, ¬ F.G k) : Below w.heap.size w w' := ⟨h.os, h.tape, h.output, h.size, fun k hk => h.block k hk (hG k)⟩

/-- The world stands as the abstract heap says. -/
structure Mem (F : Fr) (w0 : World) (ι : Iota) (H : List (Nat × Ob)) (nx : Nat) (w : World) : Prop where
  below : BelowG F w0 w
  fb : ∀ b, F.F b → b < w0.heap.size ∧ ¬ F.G b
  heap : ∀ id o, look H id = some o → id < nx ∧ ObRep w (owned F ι H) ι H nx 0 id o
  free : ∀ id o b c, look H id = some o → o.live = true → ι id = some (b, c) → w0.heap.size ≤ b ∨ F.G b
  n0le : F.n0 ≤ nx
  pin : ∀ id o, id < F.n0 → look H id = some o → o.live = true → ι id = F.pin id
  inj : ∀ id id' o o' b c c', look H id = some o → o.live = true → look H id' = some o' → o'.live = true → ι id = some (b, c) → ι id' = some (b, c') → id = id'

theorem Mem.off {F : Fr} {w0 : World} {ι : Iota} {H : List (Nat × Ob)} {nx : Nat} {w : World} (hm : Mem F w0 ι H nx w) {id : Nat} {o : Ob} {b c : Nat} (h : look H id = some o) (hl : o.live = true) (hι : ι id = some (b, c)) : ¬ F.F b := by
  intro hb
  obtain ⟨h1, h2⟩ := hm.fb b hb
  rcases hm.free id o b c h hl hι with h3 | h3
  · omega
  · exact h2 h3

/-- The frame and the world stand as the abstract state says. -/
structure Rel (F : Fr) (w0 : World) (n : Nat) (ι : Iota) (s : St) (a : Act) (w : World) : Prop where
  size : a.tmps.size = n
  defers : a.defers = []
  drawn : DrLe w0 w
  mem : Mem F w0 ι s.heap s.nx w
  env : ∀ t v, look s.env t = some v → Rep w (owned F ι s.heap) ι s.heap s.nx v (a.tmps.getD t undef)

end Go.Proofs.Ytbglmocgijlomaa

/- The abstract walk: what operations do to abstract values, and the condition that a text must meet. No program in sight. -/
namespace Go.Proofs.Ytbglmocgijlomaa
open Go.RowKit

def callable (P : Program) (f : Nat) : Bool :=
  match P.funcs[f]? with
  | some fn => fn.body.isSome && !(fn.name == "runtime.NumGoroutine")
  | none => false

/-! ### contracts -/
structure Spec where
  X : Type
  args : X → List SV
  pre : X → Prop
  res : X → SV
  obs : X → List Ob

def idxFrom (k : Nat) : List Ob → List (Nat × Ob)
  | [] => []
  | o :: r => (k, o) :: idxFrom (k + 1) r

def RepList (w : World) (own : Nat → Prop) (ι : Iota) (H : List (Nat × Ob)) (nx : Nat) (ss : List SV) (vs : List Value) : Prop :=
  ss.length = vs.length ∧ ∀ (i : Nat) (s : SV) (v : Value), ss[i]? = some s → vs[i]? = some v → Rep w own ι H nx s v

/-- What a call leaves: the value, the objects that it made and gives away, all else as it was. -/
def CallPost (F : Nat → Prop) (w : World) (r : SV) (obs : List Ob) (e : Ending) (w' : World) : Prop :=
  ∃ v ι, e = .returned v ∧ Below w.heap.size w w' ∧ DrLe w w' ∧ Rep w' (owned F ι (idxFrom 0 obs)) ι (idxFrom 0 obs) obs.length r v ∧
    (∀ id o, look (idxFrom 0 obs) id = some o → ObRep w' (owned F ι (idxFrom 0 obs)) ι (idxFrom 0 obs) obs.length w.heap.size id o) ∧
    (∀ id id' o o' b c c', look (idxFrom 0 obs) id = some o → o.live = true → look (idxFrom 0 obs) id' = some o' → o'.live = true → ι id = some (b, c) → ι id' = some (b, c') → id = id')

def Holds (P : Program) (f : Nat) (S : Spec) : Prop :=
  ∀ (x : S.X) (F : Nat → Prop) (w : World) (vs : List Value), S.pre x → (∀ b, F b → b < w.heap.size) → RepList w F (fun _ => none) [] 0 (S.args x) vs → Calls P f vs.toArray w (CallPost F w (S.res x) (S.obs x))

/-- A contract of a function that writes the row that is its first argument. -/
structure MSpec where
  X : Type
  e : Nat
  k : Nat
  rows : X → List (List CV)
  args : X → List SV
  pre : X → Prop
  post : X → List (List CV) → Prop
def RowsRep (w : World) (own : Nat → Prop) (k : Nat) (es : List (List CV)) (xs : List Value) : Prop :=
  (∀ r ∈ es, r.length = k) ∧ ∀ (i : Nat) (c : CV) (v : Value), es.flatten[i]? = some c → xs[i]? = some v → RepC w own c v
def HoldsM (P : Program) (f : Nat) (M : MSpec) : Prop :=
  ∀ (x : M.X) (own : Nat → Prop) (w : World) (base : Nat) (p : Option (Nat × Nat)) (xs vs : List Value), M.pre x → (∀ b c, p = some (b, c) → own b) → base ≤ w.heap.size → w.ownsRow base M.e M.k (ownVal p (M.rows x).length) (M.rows x).length xs → RowsRep w own M.k (M.rows x) xs →
    RepList w (fun b => ∃ c, p = some (b, c)) (fun _ => none) [] 0 (M.args x) vs →
    Calls P f (ownVal p (M.rows x).length :: vs).toArray w fun ed w' => ∃ ys xs', ed = .returned (.tuple #[]) ∧ DrLe w w' ∧ w.grownBy w' (ownVal p (M.rows x).length).ownBlock ∧ M.post x ys ∧ ys.length = (M.rows x).length ∧
      w'.ownsRow base M.e M.k (ownVal p (M.rows x).length) (M.rows x).length xs' ∧ RowsRep w' own M.k ys xs'

/-! ### views -/
def closed1 (H : List (Nat × Ob)) : SV → Option CV
  | .c v => some v
  | .osl id => match look H id with
    | some (.row _ k es) => some (.sl k es)
    | _ => none
  | _ => none
def closedL (H : List (Nat × Ob)) : List SV → Option (List CV)
  | [] => some []
  | s :: r => match closed1 H s, closedL H r with
    | some c, some l => some (c :: l)
    | _, _ => none
def SV.cells : SV → List SV
  | .agg cs => cs
  | v => [v]
def view0 (H : List (Nat × Ob)) : SV → SV
  | .c v => .c v
  | .rp cs => .rp cs
  | .osl id => match look H id with
    | some (.row _ k es) => .c (.sl k es)
    | _ => .none_
  | .bp id j => match look H id with
    | some (.box cs) => (match closedL H (cs.drop j) with
      | some l => .rp l
      | none => .none_)
    | _ => .none_
  | .fn f [] => .fn f []
  | _ => .none_
def viewL (H : List (Nat × Ob)) : List SV → List SV
  | [] => []
  | s :: r => view0 H s :: viewL H r
def knownB : List SV → Bool
  | [] => true
  | .none_ :: _ => false
  | _ :: r => knownB r
def view (H : List (Nat × Ob)) : SV → SV
  | .agg cs => match (viewL H cs).all SV.cell with
    | true => .agg (viewL H cs)
    | false => .none_
  | .fn f caps => match knownB (viewL H caps) with
    | true => .fn f (viewL H caps)
    | false => .none_
  | s => view0 H s
def views (H : List (Nat × Ob)) : List SV → List SV
  | [] => []
  | s :: r => view H s :: views H r

def leC : CV → CV → Prop
  | .nil, .sl _ es => es = []
  | x, y => x = y
def le0 : SV → SV → Prop
  | .c x, .c y => leC x y
  | x, y => x = y
def leL : List SV → List SV → Prop
  | [], [] => True
  | x :: r, y :: t => le0 x y ∧ leL r t
  | _, _ => False
def leV : SV → SV → Prop
  | _, .none_ => True
  | .agg a, .agg b => leL a b
  | .tup a, .tup b => leL a b
  | x, y => le0 x y
def leVs : List SV → List SV → Prop
  | [], [] => True
  | x :: r, y :: t => leV x y ∧ leVs r t
  | _, _ => False

/-- No row of the call's own among the arguments. -/
def free1 : SV → Bool
  | .c _ | .rp _ => true
  | .fn _ [] => true
  | _ => false
def freeL : List SV → Bool
  | [] => true
  | s :: r => (match s with
    | .agg cs => cs.all free1
    | .fn _ caps => caps.all free1
    | s => free1 s) && freeL r
/-- Numbers and truth values alone. -/
def plain1 : SV → Bool
  | .c (.int _ _) | .c (.bool _) => true
  | _ => false
def plainV : SV → Bool
  | .agg cs => cs.all plain1
  | .tup cs => cs.all plain1
  | s => plain1 s

/-! ### operations -/
inductive IOp where
  | mov | pick
  | build (zero : List CV) (parts : List (Nat × Nat))
  | buildSl (e k : Nat)
  | load (k : Nat) (ag : Bool)
  | loadB (k : Nat) (ag : Bool)
  | bin (op : BinOp) (kd : IntKind) (wr : Bool)
  | cmp (op : BinOp)
  | eqb (neq : Bool)
  | eqa (ks : List Bool) (neq : Bool)
  | not | neg (kd : IntKind)
  | conv (kd : IntKind)
  | fn (f : Nat)
  | slice (k : Nat) (lo hi : Bool)
  | faddr (off : Nat)
  | field (off k : Nat) (ag : Bool)
  | idx (k : Nat)
  | bad
  | aidx (n k : Nat)
  | subo (k : Nat)
  | aget (n k : Nat) (ag : Bool)
  | loadA (n k : Nat)
  | extract (i : Nat)
  | len | min | max | nilchk
  | call (f : Nat)
  | callv
  -- these change what the call owns
  | alloc (zero : List CV)
  | box
  | store (k : Nat)
  | storeE (k : Nat)
  | append (e k bytes : Nat)
  | mksl (e k bytes : Nat) (zero : List CV)
  | mkmap (kn : Nat) (ag : Bool)
  | mapset (kn : Nat) (ag : Bool)
  | buildOwn (e k : Nat)
  | nilOwn (e k : Nat)
  | sliceF (k : Nat) (lo hi : Bool)
  | isnil (neq : Bool)
  | lookup (z : List CV) (kn : Nat) (ag ok : Bool)
  | callm (f : Nat)
  | callo (f : Nat)
  | callg (f : Nat)
  | callx (f : Nat)
  | allocA (t k : Nat) (es : List (List CV))
  | clr (k : Nat) (z : List CV)

def ikB (a b : IntKind) : Bool := Nat.beq a.ctorIdx b.ctorIdx
def isShift : BinOp → Bool
  | .shl | .shr => true
  | _ => false
def inR : IntKind → Int → Prop
  | .i64, n => -9223372036854775808 ≤ n ∧ n ≤ 9223372036854775807
  | k, n => k.wrap n = n

/-- A check that the text itself decides. -/
def chk (b : Bool) (p : Prop) : Prop := match b with
  | true => p
  | false => False
theorem chk_iff {b : Bool} {p : Prop} : chk b p ↔ b = true ∧ p := by cases b <;> simp [chk]
def norm (v : SV) (K : SV → Prop) : Prop :=
  match v with
  | .c (.bool b) => (b = true → K (.c (.bool true))) ∧ (b = false → K (.c (.bool false)))
  | v => K v

def spl (p : Prop) (K : SV → Prop) : Prop := (p → K (.c (.bool true))) ∧ (¬ p → K (.c (.bool false)))

/-- Cells of numbers (false) and truth values (true) that are equal. -/
def eqCells : List Bool → List SV → List SV → Option Prop
  | [], [], [] => some True
  | false :: ks, .c (.int k a) :: r, .c (.int k' b) :: t => match ikB k k', eqCells ks r t with
    | true, some p => some (a = b ∧ p)
    | _, _ => none
  | true :: ks, .c (.bool a) :: r, .c (.bool b) :: t => match eqCells ks r t with
    | some p => some (a = b ∧ p)
    | none => none
  | _, _, _ => none

def setL {α : Type} : List α → Nat → List α → List α
  | cs, _, [] => cs
  | [], _, _ => []
  | _ :: r, 0, n :: ns => n :: setL r 0 ns
  | c :: r, off + 1, ns => c :: setL r off ns
def fillL : List SV → List (Nat × Nat) → List SV → Option (List SV)
  | cs, [], [] => some cs
  | cs, (off, k) :: ps, v :: vs => match Nat.beq v.cells.length k && (Nat.ble (off + k) cs.length && v.cells.all SV.cell) with
    | true => fillL (setL cs off v.cells) ps vs
    | false => none
  | _, _, _ => none
def rowsL (k : Nat) : List SV → Option (List (List CV))
  | [] => some []
  | v :: r => match closedL [] v.cells, rowsL k r with
    | some l, some t => match Nat.beq l.length k with
      | true => some (l :: t)
      | false => none
    | _, _ => none

/-- k cells as a value. -/
def fromCells (ag : Bool) (cs : List SV) (K : SV → Prop) : Prop :=
  match ag with
  | true => K (.agg cs)
  | false => match cs with
    | c :: _ => norm c K
    | [] => False

def binV (op : BinOp) (kd : IntKind) (wr : Bool) (a b : Int) (K : SV → Prop) : Prop :=
  match op with
  | .add => match wr with
    | true => K (.c (.int kd (kd.wrap (a + b))))
    | false => inR kd (a + b) ∧ K (.c (.int kd (a + b)))
  | .sub => match wr with
    | true => K (.c (.int kd (kd.wrap (a - b))))
    | false => inR kd (a - b) ∧ K (.c (.int kd (a - b)))
  | .mul => match wr with
    | true => K (.c (.int kd (kd.wrap (a * b))))
    | false => inR kd (a * b) ∧ K (.c (.int kd (a * b)))
  | .quo => (b ≠ 0 ∧ inR kd (a.tdiv b)) ∧ K (.c (.int kd (a.tdiv b)))
  | .rem => b ≠ 0 ∧ K (.c (.int kd (a.tmod b)))
  | .and => K (.c (.int kd (kd.wrap ((BitVec.ofInt kd.bits a &&& BitVec.ofInt kd.bits b).toNat))))
  | .or => K (.c (.int kd (kd.wrap ((BitVec.ofInt kd.bits a ||| BitVec.ofInt kd.bits b).toNat))))
  | .xor => K (.c (.int kd (kd.wrap ((BitVec.ofInt kd.bits a ^^^ BitVec.ofInt kd.bits b).toNat))))
  | .andNot => K (.c (.int kd (kd.wrap ((BitVec.ofInt kd.bits a &&& ~~~ BitVec.ofInt kd.bits b).toNat))))
  | .shl => 0 ≤ b ∧ K (.c (.int kd (kd.wrap (a * 2 ^ Nat.min b.toNat kd.bits))))
  | .shr => 0 ≤ b ∧ K (.c (.int kd (a.fdiv (2 ^ Nat.min b.toNat kd.bits))))
  | _ => False
def cmpV (op : BinOp) (a b : Int) (K : SV → Prop) : Prop :=
  match op with
  | .eql => spl (a = b) K
  | .neq => spl (a ≠ b) K
  | .lss => spl (a < b) K
  | .leq => spl (a ≤ b) K
  | .gtr => spl (b < a) K
  | .geq => spl (b ≤ a) K
  | _ => False
def sliceB (n : Nat) (lo hi : Bool) (xs : List SV) : Option (Int × Int) :=
  match lo, hi, xs with
  | false, false, [] => some (0, n)
  | true, false, [.c (.int _ l)] => some (l, n)
  | false, true, [.c (.int _ h)] => some (0, h)
  | true, true, [.c (.int _ l), .c (.int _ h)] => some (l, h)
  | _, _, _ => none
def keyOf (kn : Nat) (s : SV) : Option (List Int) :=
  match kn, s with
  | 0, .c (.int .i64 n) => some [n]
  | _ + 1, .agg cs => keyL cs
  | _, _ => none
where keyL : List SV → Option (List Int)
  | [] => some []
  | .c (.int .i64 n) :: r => match keyL r with
    | some l => some (n :: l)
    | none => none
  | _ => none
def findKV (k : List Int) : List (List Int × List CV) → Option (List CV)
  | [] => none
  | p :: r => if k = p.1 then some p.2 else findKV k r
def bB : Bool → Bool → Bool
  | true, b => b
  | false, true => false
  | false, false => true
def valOk (ag : Bool) : SV → Bool
  | .agg _ => ag
  | .c _ => bB ag false
  | _ => false
def gotV (ag ok : Bool) (l : List CV) (b : Bool) (K : SV → Prop) : Prop :=
  match ag, l with
  | true, l => (match ok with
    | true => K (.tup [.agg (l.map .c), .c (.bool b)])
    | false => K (.agg (l.map .c)))
  | false, [c] => (match ok with
    | true => K (.tup [.c c, .c (.bool b)])
    | false => K (.c c))
  | false, _ => False
def setKV (k : List Int) (v : List CV) : List (List Int × List CV) → List (List Int × List CV)
  | [] => [(k, v)]
  | p :: r => if k = p.1 then (p.1, v) :: r else p :: setKV k v r

/-- A call met by a contract. -/
def callV (P : Program) (f : Nat) (H : List (Nat × Ob)) (xs : List SV) (K : SV → List Ob → Prop) : Prop :=
  ∃ S : Spec, Holds P f S ∧ ∃ x : S.X, S.pre x ∧ leVs (views H xs) (S.args x) ∧ (freeL xs = true ∨ plainV (S.res x) = true) ∧ K (S.res x) (S.obs x)

/-- The rows handed to a call are given up. -/
def ids1 : SV → List Nat
  | .osl id => [id]
  | .bp id _ => [id]
  | .ep id _ _ _ => [id]
  | _ => []
def idsV : SV → List Nat
  | .agg cs => cs.flatMap ids1
  | .fn _ cs => cs.flatMap ids1
  | s => ids1 s
def killI : List Nat → List (Nat × Ob) → List (Nat × Ob)
  | [], H => H
  | i :: r, H => killI r ((i, .dead) :: H)
def kills (xs : List SV) (H : List (Nat × Ob)) : List (Nat × Ob) := killI (xs.flatMap idsV) H
def rowsO : List Ob → Prop
  | [] => True
  | .row _ _ _ :: r => rowsO r
  | _ => False
def ownArg1 : SV → Bool
  | .c _ | .rp _ | .osl _ => true
  | .fn _ [] => true
  | _ => false
def ownArgs : List SV → Bool
  | [] => true
  | s :: r => (match s with
    | .agg cs => cs.all ownArg1
    | .fn _ caps => caps.all ownArg1
    | s => ownArg1 s) && ownArgs r
def callO (P : Program) (f : Nat) (H : List (Nat × Ob)) (xs : List SV) (K : SV → List Ob → Prop) : Prop :=
  ownArgs xs = true ∧ ∃ S : Spec, Holds P f S ∧ ∃ x : S.X, S.pre x ∧ leVs (views H xs) (S.args x) ∧ rowsO (S.obs x) ∧ K (S.res x) (S.obs x)

/-- What an operation that changes nothing of what the call owns yields. -/
def pop (P : Program) (op : IOp) (H : List (Nat × Ob)) (xs : List SV) (K : SV → Prop) : Prop :=
  match op with
  | .mov => match xs with
    | [x] => K x
    | _ => False
  | .pick => match xs with
    | [.c (.bool true), x, _] => K x
    | [.c (.bool false), _, y] => K y
    | _ => False
  | .build zero parts => match fillL (zero.map .c) parts xs with
    | some cs => K (.agg cs)
    | none => False
  | .buildSl _ k => match rowsL k xs with
    | some es => K (.c (.sl k es))
    | none => False
  | .loadB k ag => match xs with
    | [.bp id j] => (match look H id with
      | some (.box cs) => chk (Nat.ble (j + k) cs.length) (fromCells ag ((cs.drop j).take k) K)
      | _ => False)
    | [.rp cs] => chk (Nat.ble k cs.length) (fromCells ag ((cs.take k).map .c) K)
    | _ => False
  | .load k ag => match xs with
    | [.bp id j] => (match look H id with
      | some (.box cs) => chk (Nat.ble (j + k) cs.length) (fromCells ag ((cs.drop j).take k) K)
      | _ => False)
    | [.rp cs] => chk (Nat.ble k cs.length) (fromCells ag ((cs.take k).map .c) K)
    | [.ep id k' i j] => (match look H id with
      | some (.row _ k'' es) => chk (Nat.beq k' k'' && Nat.ble (j + k) k') (i < es.length ∧ ∀ r, es[i]? = some r → fromCells ag (((r.drop j).take k).map .c) K)
      | _ => False)
    | _ => False
  | .bin o kd wr => match xs with
    | [.c (.int k1 a), .c (.int k2 b)] => (match isShift o || ikB k2 kd, ikB k1 kd with
      | true, true => binV o kd wr a b K
      | _, _ => False)
    | _ => False
  | .cmp o => match xs with
    | [.c (.int k1 a), .c (.int k2 b)] => (match ikB k1 k2 with
      | true => cmpV o a b K
      | false => False)
    | _ => False
  | .eqb neq => match xs with
    | [.c (.bool a), .c (.bool b)] => (match neq with
      | true => spl (a ≠ b) K
      | false => spl (a = b) K)
    | _ => False
  | .eqa ks neq => match xs with
    | [.agg a, .agg b] => (match eqCells ks a b with
      | some p => (match neq with
        | true => spl (¬ p) K
        | false => spl p K)
      | none => False)
    | _ => False
  | .not => match xs with
    | [.c (.bool b)] => K (.c (.bool (!b)))
    | _ => False
  | .neg kd => match xs with
    | [.c (.int k a)] => (match ikB k kd with
      | true => inR kd (0 - a) ∧ K (.c (.int kd (0 - a)))
      | false => False)
    | _ => False
  | .conv kd => match xs with
    | [.c (.int _ a)] => inR kd a ∧ K (.c (.int kd a))
    | _ => False
  | .fn f => K (.fn f xs)
  | .slice k lo hi => match xs with
    | .c (.sl k' es) :: r => (match sliceB es.length lo hi r with
      | some (l, h) => chk (Nat.beq k' k) ((0 ≤ l ∧ l ≤ h ∧ h ≤ es.length) ∧ K (.c (.sl k ((es.take h.toNat).drop l.toNat))))
      | none => False)
    | _ => False
  | .faddr off => match xs with
    | [.rp cs] => chk (Nat.ble off cs.length) (K (.rp (cs.drop off)))
    | [.bp id j] => (match look H id with
      | some (.box _) => K (.bp id (j + off))
      | _ => False)
    | [.ep id k i j] => (match look H id with
      | some (.row _ _ _) => K (.ep id k i (j + off))
      | _ => False)
    | _ => False
  | .field off k ag => match xs with
    | [.agg cs] => chk (Nat.ble (off + k) cs.length) (fromCells ag ((cs.drop off).take k) K)
    | _ => False
  | .idx k => match xs with
    | [.c (.sl k' es), .c (.int _ i)] => chk (Nat.beq k' k) ((0 ≤ i ∧ i < es.length) ∧ ∀ r, es[i.toNat]? = some r → K (.rp r))
    | [.osl id, .c (.int _ i)] => (match look H id with
      | some (.row _ k' es) => chk (Nat.beq k' k) ((0 ≤ i ∧ i < es.length) ∧ K (.ep id k i.toNat 0))
      | _ => False)
    | _ => False
  | .subo k => match xs with
    | [.osl id, .c (.int _ l)] => (match look H id with
      | some (.row _ k' es) => chk (Nat.beq k' k) ((0 ≤ l ∧ l < es.length) ∧ K (.ss id k l.toNat))
      | _ => False)
    | _ => False
  | .aidx n k => match xs with
    | [.ep id k' i0 j0, .c (.int _ i)] => (match look H id with
      | some (.row _ _ _) => chk (Nat.beq k' k && (Nat.beq i0 0 && Nat.beq j0 0)) ((0 ≤ i ∧ i < n) ∧ K (.ep id k i.toNat 0))
      | _ => False)
    | _ => False
  | .aget n k ag => match xs with
    | [.agg cs, .c (.int _ i)] => ∃ es : List (List CV), cs = es.flatten.map .c ∧ (∀ r ∈ es, r.length = k) ∧ (0 ≤ i ∧ i < n ∧ n = es.length) ∧ ∀ r, es[i.toNat]? = some r → fromCells ag (r.map .c) K
    | _ => False
  | .loadA n k => match xs with
    | [.ep id k' i0 j0] => (match look H id with
      | some (.row _ k'' es) => chk (Nat.beq k' k && (Nat.beq k'' k && (Nat.beq i0 0 && Nat.beq j0 0))) (es.length = n ∧ K (.agg (es.flatten.map .c)))
      | _ => False)
    | _ => False
  | .extract i => match xs with
    | [.tup vs] => (match vs[i]? with
      | some v => norm v K
      | none => False)
    | _ => False
  | .len => match xs with
    | [.c .nil] => K (.c (.int .i64 0))
    | [.c (.sl _ es)] => K (.c (.int .i64 es.length))
    | [.osl id] => (match look H id with
      | some (.row _ _ es) => K (.c (.int .i64 es.length))
      | _ => False)
    | _ => False
  | .min => match xs with
    | [.c (.int k a), .c (.int _ b)] => K (.c (.int k (Min.min a b)))
    | _ => False
  | .max => match xs with
    | [.c (.int k a), .c (.int _ b)] => K (.c (.int k (Max.max a b)))
    | _ => False
  | .nilchk => match xs with
    | [.rp cs] => K (.rp cs)
    | [.bp id j] => (match look H id with
      | some (.box _) => K (.bp id j)
      | _ => False)
    | [.ep id k i j] => (match look H id with
      | some (.row _ _ _) => K (.ep id k i j)
      | _ => False)
    | [.fn f caps] => K (.fn f caps)
    | _ => False
  | .call f => callV P f H xs fun r obs => obs = [] ∧ norm r K
  | .callv => match xs with
    | .fn f caps :: ys => callable P f = true ∧ callV P f H (ys ++ caps) fun r obs => obs = [] ∧ norm r K
    | _ => False
  | _ => False

def St.set (s : St) (d : Option Nat) (v : SV) : St :=
  match d with
  | some t => { s with env := (t, v) :: s.env }
  | none => s
def St.new (s : St) (o : Ob) : St := { s with heap := (s.nx, o) :: s.heap, nx := s.nx + 1 }
def St.put (s : St) (id : Nat) (o : Ob) : St := { s with heap := (id, o) :: s.heap }
def St.news (s : St) : List Ob → St
  | [] => s
  | o :: r => (s.new o).news r
def shift (n : Nat) : SV → SV
  | .osl id => .osl (n + id)
  | .bp id j => .bp (n + id) j
  | .ep id k i j => .ep (n + id) k i j
  | .ss id k lo => .ss (n + id) k lo
  | .mp id => .mp (n + id)
  | .agg cs => .agg (shiftL n cs)
  | .tup cs => .tup (shiftL n cs)
  | .fn f cs => .fn f (shiftL n cs)
  | s => s
where shiftL (n : Nat) : List SV → List SV
  | [] => []
  | s :: r => shift n s :: shiftL n r


/-! ### calls that are given what they may write -/
def bnd1 (nx : Nat) : SV → Bool
  | .osl id | .bp id _ | .ep id _ _ _ | .ss id _ _ | .mp id => Nat.blt id nx
  | .agg cs | .tup cs | .fn _ cs => bndL nx cs
  | _ => true
where bndL (nx : Nat) : List SV → Bool
  | [] => true
  | s :: r => bnd1 nx s && bndL nx r
def ren (σ : List (Nat × Nat)) (id : Nat) : Nat := (look σ id).getD id
def renV (σ : List (Nat × Nat)) : SV → SV
  | .osl id => .osl (ren σ id)
  | .bp id j => .bp (ren σ id) j
  | .ep id k i j => .ep (ren σ id) k i j
  | .ss id k lo => .ss (ren σ id) k lo
  | .mp id => .mp (ren σ id)
  | .agg cs => .agg (renL σ cs)
  | .tup cs => .tup (renL σ cs)
  | .fn f cs => .fn f (renL σ cs)
  | s => s
where renL (σ : List (Nat × Nat)) : List SV → List SV
  | [] => []
  | s :: r => renV σ s :: renL σ r
def renO (σ : List (Nat × Nat)) : Ob → Ob
  | .box cs => .box (renV.renL σ cs)
  | o => o
def bndO (nx : Nat) : Ob → Bool
  | .box cs => bnd1.bndL nx cs
  | _ => true
def meetH (σ : List (Nat × Nat)) (s : St) (nx : Nat) : List (Nat × Ob) → Prop
  | [] => True
  | (id, o) :: r => (look s.heap (ren σ id) = some (renO σ o) ∧ Nat.blt id nx = true ∧ bndO nx o = true) ∧ meetH σ s nx r
def nodupB : List Nat → Bool
  | [] => true
  | x :: r => !(r.elem x) && nodupB r

/-- Which objects are given: those at the ids gs, in this order. -/
def sig (k : Nat) : List Nat → List (Nat × Nat)
  | [] => []
  | g :: r => (k, g) :: sig (k + 1) r
def upFrom : Nat → Nat → List Nat
  | _, 0 => []
  | k, n + 1 => k :: upFrom (k + 1) n
/-- Does a value name an object? -/
def gk : SV → Bool
  | .osl _ | .bp _ _ | .ep _ _ _ _ | .ss _ _ _ | .mp _ => true
  | .agg cs | .tup cs | .fn _ cs => gkL cs
  | _ => false
where gkL : List SV → Bool
  | [] => false
  | s :: r => match gk s with
    | true => true
    | false => gkL r
/-- The rows handed to a call are given up. -/
def argG (σ : List (Nat × Nat)) (n : Nat) (H : List (Nat × Ob)) (x a : SV) : Prop :=
  match gk a with
  | true => x = renV σ a ∧ bnd1 n a = true
  | false => leV (view H x) a
def argsG (σ : List (Nat × Nat)) (n : Nat) (H : List (Nat × Ob)) : List SV → List SV → Prop
  | [], [] => True
  | x :: r, a :: t => argG σ n H x a ∧ argsG σ n H r t
  | _, _ => False
def freeG : List SV → List SV → Bool
  | [], [] => true
  | x :: r, a :: t => (match gk a with
    | true => true
    | false => freeL [x]) && freeG r t
  | _, _ => false
/-- Numbers, truth values and objects alone. -/
def cln : SV → Bool
  | .c v => v.scalar
  | .osl _ | .bp _ _ | .ep _ _ _ _ | .ss _ _ _ | .mp _ | .none_ | .und => true
  | .agg cs | .tup cs | .fn _ cs => clnL cs
  | .rp _ => false
where clnL : List SV → Bool
  | [] => true
  | s :: r => cln s && clnL r
def clnO : Ob → Prop
  | .box cs => cln.clnL cs = true
  | .row _ _ es => ∀ r ∈ es, ∀ c ∈ r, c.scalar = true
  | _ => True
def clnOs : List Ob → Prop
  | [] => True
  | o :: r => clnO o ∧ clnOs r
def shpO : Ob → Ob → Prop
  | .box _, .box _ => True
  | .row e k es, .row e' k' es' => (e' = e ∧ k' = k) ∧ es'.length = es.length
  | .map _ _ _, .map _ _ _ => True
  | .box _, .dead | .row _ _ _, .dead | .map _ _ _, .dead => True
  | _, _ => False
def shpOs : List Ob → List Ob → Prop
  | [], [] => True
  | o :: r, o' :: t => shpO o o' ∧ shpOs r t
  | _, _ => False
def putsG : List Nat → List Ob → List (Nat × Ob) → List (Nat × Ob)
  | g :: r, o :: t, H => putsG r t ((g, o) :: H)
  | _, _, H => H
def renOs (σ : List (Nat × Nat)) : List Ob → List Ob
  | [] => []
  | o :: r => renO σ o :: renOs σ r
/-- A contract of a function that is given objects to write. -/
structure GSpec where
  X : Type
  ins : X → List Ob
  args : X → List SV
  pre : X → Prop
  res : X → SV
  fin : X → List Ob
  obs : X → List Ob
def injO (H : List (Nat × Ob)) (ι : Iota) : Prop := ∀ id id' o o' b c c', look H id = some o → o.live = true → look H id' = some o' → o'.live = true → ι id = some (b, c) → ι id' = some (b, c') → id = id'
def given (H : List (Nat × Ob)) (ι : Iota) (b : Nat) : Prop := ∃ id o c, look H id = some o ∧ o.live = true ∧ ι id = some (b, c)
def CallPostG (F : Nat → Prop) (w : World) (ι0 : Iota) (H0 : List (Nat × Ob)) (n0 : Nat) (r : SV) (objs : List Ob) (e : Ending) (w' : World) : Prop :=
  ∃ v ι, e = .returned v ∧ BelowG ⟨F, given H0 ι0, n0, ι0⟩ w w' ∧ DrLe w w' ∧ Rep w' (owned F ι (idxFrom 0 objs)) ι (idxFrom 0 objs) objs.length r v ∧
    (∀ id o, look (idxFrom 0 objs) id = some o → ObRep w' (owned F ι (idxFrom 0 objs)) ι (idxFrom 0 objs) objs.length 0 id o) ∧
    injO (idxFrom 0 objs) ι ∧
    (∀ id o, id < n0 → look (idxFrom 0 objs) id = some o → o.live = true → ι id = ι0 id) ∧
    (∀ id o b c, look (idxFrom 0 objs) id = some o → o.live = true → ι id = some (b, c) → w.heap.size ≤ b ∨ given H0 ι0 b)
def HoldsG (P : Program) (f : Nat) (S : GSpec) : Prop :=
  ∀ (x : S.X) (F : Nat → Prop) (w : World) (vs : List Value) (ι : Iota), S.pre x → (∀ b, F b → b < w.heap.size ∧ ¬ given (idxFrom 0 (S.ins x)) ι b) →
    (∀ id o, look (idxFrom 0 (S.ins x)) id = some o → ObRep w (owned F ι (idxFrom 0 (S.ins x))) ι (idxFrom 0 (S.ins x)) (S.ins x).length 0 id o) →
    injO (idxFrom 0 (S.ins x)) ι →
    RepList w (owned F ι (idxFrom 0 (S.ins x))) ι (idxFrom 0 (S.ins x)) (S.ins x).length (S.args x) vs →
    Calls P f vs.toArray w (CallPostG F w ι (idxFrom 0 (S.ins x)) (S.ins x).length (S.res x) (S.fin x ++ S.obs x))
def tauG (gs : List Nat) (nx m : Nat) : List (Nat × Nat) := sig 0 (gs ++ upFrom nx m)
def allLive : List Ob → Bool
  | [] => true
  | o :: r => o.live && allLive r
def callG (P : Program) (f : Nat) (H : List (Nat × Ob)) (nx : Nat) (xs : List SV) (K : SV → List (Nat × Ob) → List Ob → Prop) : Prop :=
  ∃ gs : List Nat, ∃ S : GSpec, HoldsG P f S ∧ ∃ x : S.X, S.pre x ∧ (meetH (sig 0 gs) ⟨[], H, 0⟩ (S.ins x).length (idxFrom 0 (S.ins x)) ∧ nodupB gs = true ∧ Nat.beq gs.length (S.ins x).length = true ∧ allLive (S.ins x) = true) ∧
    argsG (sig 0 gs) (S.ins x).length (killI gs H) xs (S.args x) ∧
    (freeG xs (S.args x) = true ∨ (cln (S.res x) = true ∧ clnOs (S.fin x) ∧ clnOs (S.obs x))) ∧
    (shpOs (S.ins x) (S.fin x) ∧ rowsO (S.obs x)) ∧
    norm (renV (tauG gs nx (S.obs x).length) (S.res x)) fun r => K r (putsG gs (renOs (tauG gs nx (S.obs x).length) (S.fin x)) H) (S.obs x)

/-- The rows that an append takes in. -/
def srcRows (H : List (Nat × Ob)) (k : Nat) : SV → Option (List (List CV))
  | .c .nil => some []
  | .c (.sl k' es) => match Nat.beq k' k with
    | true => some es
    | false => none
  | .osl id => match look H id with
    | some (.row _ k' es) => match Nat.beq k' k with
      | true => some es
      | false => none
    | _ => none
  | _ => none

/-- What a step that changes the owned memory leaves. -/
structure Step (F : Fr) (w0 w w' : World) (ι ι' : Iota) (H H' : List (Nat × Ob)) (nx nx' : Nat) : Prop where
  mem : Mem F w0 ι' H' nx' w'
  rep : ∀ s u, Rep w (owned F ι H) ι H nx s u → Rep w' (owned F ι' H') ι' H' nx' s u
  repc : ∀ c u, RepC w (owned F ι H) c u → RepC w' (owned F ι' H') c u

/-- What an operation leaves. -/
def Left (F : Fr) (w0 w : World) (ι : Iota) (s : St) (K : SV → St → Prop) (u : Value) (w' : World) : Prop :=
  ∃ ι' v s', s'.env = s.env ∧ Step F w0 w w' ι ι' s.heap s'.heap s.nx s'.nx ∧ Rep w' (owned F ι' s'.heap) ι' s'.heap s'.nx v u ∧ K v s'

/-- A call met by a rule of its own. -/
def callX (P : Program) (f : Nat) (s : St) (xs : List SV) (K : SV → St → Prop) : Prop :=
  ∃ R : SV → St → Prop, (∀ (F : Fr) (w0 : World) (ι : Iota) (w : World) (us : List Value), Mem F w0 ι s.heap s.nx w → RepList w (owned F ι s.heap) ι s.heap s.nx xs us →
    Calls P f us.toArray w fun e w' => ∃ u, e = .returned u ∧ DrLe w w' ∧ Left F w0 w ι s R u w') ∧ ∀ v s', R v s' → K v s'
/-- What an operation that changes what the call owns does. -/
def eop (P : Program) (op : IOp) (s : St) (xs : List SV) (K : SV → St → Prop) : Prop :=
  match op with
  | .alloc zero => K (.bp s.nx 0) (s.new (.box (zero.map .c)))
  | .box => match xs with
    | [v] => chk (v.cells.all SV.cell) (K (.bp s.nx 0) (s.new (.box v.cells)))
    | _ => False
  | .store k => match xs with
    | [.bp id j, v] => (match look s.heap id with
      | some (.box cs) => chk (Nat.ble (j + k) cs.length && (Nat.beq v.cells.length k && v.cells.all SV.cell)) (K .none_ (s.put id (.box (setL cs j v.cells))))
      | _ => False)
    | [.ep id k' i j, v] => (match look s.heap id, closedL [] v.cells with
      | some (.row e k'' es), some l => chk (Nat.beq k' k'' && (Nat.ble (j + k) k' && Nat.beq l.length k)) (i < es.length ∧ ∀ r, es[i]? = some r → K .none_ (s.put id (.row e k'' (es.set i (setL r j l)))))
      | _, _ => False)
    | _ => False
  | .storeE k => match xs with
    | [.ep id k' i j, v] => (match look s.heap id, closedL [] v.cells with
      | some (.row e k'' es), some l => chk (Nat.beq k' k'' && (Nat.ble (j + k) k' && Nat.beq l.length k)) (i < es.length ∧ ∀ r, es[i]? = some r → K .none_ (s.put id (.row e k'' (es.set i (setL r j l)))))
      | _, _ => False)
    | _ => False
  | .append e k bytes => match xs with
    | [.c .nil, src] => (match srcRows s.heap k src with
      | some ys => (ys.length * bytes ≤ 140737488355328 ∧ ys.length ≤ 140737488355328) ∧ K (.osl s.nx) (s.new (.row e k ys))
      | none => False)
    | [.osl id, src] => (match look s.heap id, srcRows s.heap k src with
      | some (.row e' k' es), some ys => chk (Nat.beq e' e && Nat.beq k' k) (((es.length + ys.length) * bytes ≤ 140737488355328 ∧ es.length + ys.length ≤ 140737488355328) ∧ K (.osl s.nx) ((s.put id .dead).new (.row e k (es ++ ys))))
      | _, _ => False)
    | _ => False
  | .mksl e k bytes zero => match xs with
    | [.c (.int _ n), .c (.int _ c)] => (0 ≤ n ∧ n ≤ c ∧ c * bytes ≤ 140737488355328 ∧ c ≤ 140737488355328) ∧ K (.osl s.nx) (s.new (.row e k (List.replicate n.toNat zero)))
    | _ => False
  | .mkmap kn ag => match xs with
    | [] => K (.mp s.nx) (s.new (.map kn ag []))
    | [.c (.int _ _)] => K (.mp s.nx) (s.new (.map kn ag []))
    | _ => False
  | .mapset kn ag => match xs with
    | [.mp id, key, v] => (match look s.heap id, keyOf kn key, closedL [] v.cells with
      | some (.map kn' ag' kv), some k, some l => chk (Nat.beq kn kn' && (bB ag ag' && (keyLen kn k && (l.all CV.scalar && valOk ag v)))) (K .none_ (s.put id (.map kn' ag' (setKV k l kv))))
      | _, _, _ => False)
    | _ => False
  | .lookup z kn ag ok => match xs with
    | [.mp id, key] => (match look s.heap id, keyOf kn key with
      | some (.map kn' ag' kv), some k => chk (Nat.beq kn kn' && (bB ag ag' && (keyLen kn k && (z.all CV.scalar && (ag || Nat.beq z.length 1))))) ((∀ l, findKV k kv = some l → gotV ag ok l true fun v => K v s) ∧ (findKV k kv = none → gotV ag ok z false fun v => K v s))
      | _, _ => False)
    | _ => False
  | .buildOwn e k => match rowsL k xs with
    | some es => K (.osl s.nx) (s.new (.row e k es))
    | none => False
  | .nilOwn e k => K (.osl s.nx) (s.new (.row e k []))
  | .sliceF k lo hi => match xs with
    | .osl id :: r => (match look s.heap id with
      | some (.row _ k' es) => (match sliceB es.length lo hi r with
        | some (l, h) => chk (Nat.beq k' k) ((0 ≤ l ∧ l ≤ h ∧ h ≤ es.length) ∧ K (.c (.sl k ((es.take h.toNat).drop l.toNat))) (s.put id .dead))
        | none => False)
      | _ => False)
    | _ => False
  | .callm f => match xs with
    | .osl id :: r => (match look s.heap id with
      | some (.row e k es) => ∃ M : MSpec, HoldsM P f M ∧ ∃ x : M.X, M.pre x ∧ (M.e = e ∧ M.k = k) ∧ M.rows x = es ∧ leVs (views ((id, .dead) :: s.heap) r) (M.args x) ∧ ∀ ys, M.post x ys → K (.tup []) (s.put id (.row e k ys))
      | _ => False)
    | _ => False
  | .isnil neq => match xs with
    | [.c .nil] => K (.c (.bool (!neq))) s
    | [.c (.sl _ es)] => (es = [] → K (.c (.bool (!neq))) s) ∧ K (.c (.bool neq)) s
    | [.osl id] => (match look s.heap id with
      | some (.row _ _ es) => (es = [] → K (.c (.bool (!neq))) s) ∧ K (.c (.bool neq)) s
      | _ => False)
    | _ => False
  | .callx f => callX P f s xs K
  | .callg f => callG P f s.heap s.nx xs fun r H' obs => K r ({ s with heap := H' }.news obs)
  | .clr k z => match xs with
    | [.ss id k' lo] => (match look s.heap id with
      | some (.row e k'' es) => chk (Nat.beq k' k && (Nat.beq k'' k && Nat.beq z.length k)) (lo < es.length ∧ K (.tup []) (s.put id (.row e k'' (es.take lo ++ List.replicate (es.length - lo) z))))
      | _ => False)
    | _ => False
  | .allocA t k es => K (.ep s.nx k 0 0) (s.new (.row t k es))
  | .callo f => callO P f s.heap xs fun r obs => norm (shift s.nx r) fun r' => K r' ({ s with heap := kills xs s.heap }.news obs)
  | _ => False

/-! ### texts -/
structure Opn where
  dst : Option Nat
  op : IOp
  args : List Operand
  guard : Option (Nat × Bool)

inductive IC where
  | skip | ret
  | ops (l : List Opn) (draw : Bool)
  | seq (a b : IC)
  | cond (c : Operand) (a b : IC)
  | block (id : Nat) (a : IC)
  | loop (a : IC)
  | exit (id : Nat)
  | sealc (t : Nat)

def constCs : List Value → List SV
  | [] => []
  | .int k n :: r => .c (.int k n) :: constCs r
  | .bool b :: r => .c (.bool b) :: constCs r
  | .slice none 0 0 :: r => .c .nil :: constCs r
  | _ :: r => .none_ :: constCs r
def constV : Value → SV
  | .int k n => .c (.int k n)
  | .bool b => .c (.bool b)
  | .slice none 0 0 => .c .nil
  | _ => .none_
def evalO (env : List (Nat × SV)) : Operand → Option SV
  | .tmp t => look env t
  | .const v => some (constV v)
  | .func f => some (.fn f [])
  | .global _ => none
def evalL (env : List (Nat × SV)) : List Operand → Option (List SV)
  | [] => some []
  | x :: r => match evalO env x, evalL env r with
    | some v, some l => some (v :: l)
    | _, _ => none

def IOp.eff : IOp → Bool
  | .alloc _ | .box | .store _ | .storeE _ | .append _ _ _ | .mksl _ _ _ _ | .mkmap _ _ | .mapset _ _ | .lookup _ _ _ _ | .buildOwn _ _ | .nilOwn _ _ | .sliceF _ _ _ | .isnil _ | .callm _ | .callo _ | .callg _ | .callx _ | .allocA _ _ _ | .clr _ _ => true
  | _ => false

def setK (s : St) (d : Option Nat) (v : SV) (K : St → Prop) : Prop :=
  match d with
  | none => K s
  | some t => match s with
    | ⟨e, h, n⟩ => K ⟨(t, v) :: e, h, n⟩
theorem setK_eq (s : St) (d : Option Nat) (v : SV) (K : St → Prop) : setK s d v K = K (s.set d v) := by
  cases d <;> rfl
def opV (P : Program) (o : Opn) (s : St) (K : St → Prop) : Prop :=
  match evalL s.env o.args with
  | none => False
  | some xs => match o.op.eff with
    | true => eop P o.op s xs fun v s' => setK s' o.dst v K
    | false => pop P o.op s.heap xs fun v => setK s o.dst v K

def opsV (P : Program) : List Opn → (St → Prop) → St → Prop
  | [], K, s => K s
  | o :: r, K, s => match o.guard with
    | none => opV P o s (opsV P r K)
    | some (t, b) => match look s.env t with
      | some (.c (.bool true)) => (match b with
        | true => opV P o s (opsV P r K)
        | false => setK s o.dst .und (opsV P r K))
      | some (.c (.bool false)) => (match b with
        | true => setK s o.dst .und (opsV P r K)
        | false => opV P o s (opsV P r K))
      | some .und => setK s o.dst .und (opsV P r K)
      | _ => False

inductive Ex where
  | normal | exit (id : Nat) | ret

/-- One state is met by another: what the second says holds where the first does, its ids renamed. -/
def meetE (σ : List (Nat × Nat)) (s : St) (nx : Nat) : List (Nat × SV) → Prop
  | [] => True
  | (t, v) :: r => (look s.env t = some (renV σ v) ∧ bnd1 nx v = true) ∧ meetE σ s nx r
def pinB (n0 : Nat) (σ : List (Nat × Nat)) (nx : Nat) : Bool := Nat.ble n0 nx && σ.all fun p => Nat.ble n0 p.1 || Nat.beq p.1 p.2
def Meets (n0 : Nat) (s t : St) : Prop := ∃ σ, meetE σ s t.nx t.env ∧ meetH σ s t.nx t.heap ∧ nodupB (t.heap.map fun p => ren σ p.1) = true ∧ nodupB (t.heap.map fun p => p.1) = true ∧ pinB n0 σ t.nx = true

/-- A row of the call's own that is written no more becomes a closed value wherever it is named. -/
def seal1 (id k : Nat) (es : List (List CV)) : SV → SV
  | .osl i => match Nat.beq i id with
    | true => .c (.sl k es)
    | false => .osl i
  | s => s
def sealL (id k : Nat) (es : List (List CV)) : List SV → List SV
  | [] => []
  | s :: r => seal1 id k es s :: sealL id k es r
def sealV (id k : Nat) (es : List (List CV)) : SV → SV
  | .agg cs => .agg (sealL id k es cs)
  | s => seal1 id k es s
def sealO (id k : Nat) (es : List (List CV)) : Ob → Ob
  | .box cs => .box (sealL id k es cs)
  | o => o
def sealE (id k : Nat) (es : List (List CV)) : List (Nat × SV) → List (Nat × SV)
  | [] => []
  | (t, v) :: r => (t, sealV id k es v) :: sealE id k es r
def sealH (id k : Nat) (es : List (List CV)) : List (Nat × Ob) → List (Nat × Ob)
  | [] => []
  | (t, v) :: r => (t, sealO id k es v) :: sealH id k es r

def vc (P : Program) (n0 : Nat) : IC → (Ex → St → Prop) → St → Prop
  | .skip, Q, s => Q .normal s
  | .ret, Q, s => Q .ret s
  | .ops l _, Q, s => opsV P l (Q .normal) s
  | .seq a b, Q, s => vc P n0 a (fun e s' => match e with
    | .normal => vc P n0 b Q s'
    | .exit i => Q (.exit i) s'
    | .ret => Q .ret s') s
  | .cond c a b, Q, s => match evalO s.env c with
    | some (.c (.bool true)) => vc P n0 a Q s
    | some (.c (.bool false)) => vc P n0 b Q s
    | _ => False
  | .block id a, Q, s => vc P n0 a (fun e s' => match e with
    | .normal => Q .normal s'
    | .exit i => (match Nat.beq i id with
      | true => Q .normal s'
      | false => Q (.exit i) s')
    | .ret => Q .ret s') s
  | .loop a, Q, s => ∃ (X : Type) (I : X → St) (inv : X → Prop) (μ : X → Nat), (∃ x, inv x ∧ Meets n0 s (I x)) ∧ ∀ x, inv x → vc P n0 a (fun e s' => match e with
    | .normal => ∃ x', (inv x' ∧ μ x' < μ x) ∧ Meets n0 s' (I x')
    | .exit i => Q (.exit i) s'
    | .ret => Q .ret s') (I x)
  | .exit id, Q, s => Q (.exit id) s
  | .sealc t, Q, s => match look s.env t with
    | some (.osl id) => (match look s.heap id with
      | some (.row _ k es) => Q .normal ⟨sealE id k es s.env, (id, .dead) :: sealH id k es s.heap, s.nx⟩
      | _ => False)
    | _ => False

inductive RV where
  | tmp (t : Nat)
  | cell (t k : Nat) (ag : Bool)
structure IFn where
  n : Nat
  res : List RV
  body : IC

def pos (σ : List Nat) (id : Nat) : Option Nat := σ.findIdx? (Nat.beq id)
def out0 (σ : List Nat) (H : List (Nat × Ob)) : SV → SV
  | .osl id => match pos σ id with
    | some p => .osl p
    | none => view0 H (.osl id)
  | .c v => .c v
  | .rp cs => .rp cs
  | .fn f [] => .fn f []
  | _ => .none_
def outL (σ : List Nat) (H : List (Nat × Ob)) : List SV → List SV
  | [] => []
  | s :: r => out0 σ H s :: outL σ H r
def outV (σ : List Nat) (H : List (Nat × Ob)) : SV → SV
  | .agg cs => match (outL σ H cs).all SV.cell with
    | true => .agg (outL σ H cs)
    | false => .none_
  | s => out0 σ H s
def resOf (s : St) : RV → Option SV
  | .tmp t => look s.env t
  | .cell t k ag => match look s.env t with
    | some (.bp id j) => match look s.heap id with
      | some (.box cs) => match ag with
        | true => (match Nat.ble (j + k) cs.length with
          | true => some (.agg ((cs.drop j).take k))
          | false => none)
        | false => cs[j]?
      | _ => none
    | _ => none
def resL (s : St) : List RV → Option (List SV)
  | [] => some []
  | x :: r => match resOf s x, resL s r with
    | some v, some l => some (v :: l)
    | _, _ => none
def outs (σ : List Nat) (H : List (Nat × Ob)) : List SV → List SV
  | [] => []
  | s :: r => outV σ H s :: outs σ H r
/-- The results, as a caller gets them. -/
def leR : List SV → SV → Prop
  | [v], r => leV v r
  | vs, .tup rs => leVs vs rs
  | _, _ => False
def obsOk (H : List (Nat × Ob)) : List Nat → List Ob → Prop
  | [], [] => True
  | id :: r, o :: t => (look H id = some o ∧ ∃ e k es, o = .row e k es) ∧ obsOk H r t
  | _, _ => False
def finV (res : List RV) (s : St) (r : SV) (obs : List Ob) : Prop :=
  ∃ σ, nodupB σ = true ∧ obsOk s.heap σ obs ∧ match resL s res with
    | some vs => leR (outs σ s.heap vs) r
    | none => False

def argEnv (k : Nat) : List SV → List (Nat × SV)
  | [] => []
  | v :: r => (k, v) :: argEnv (k + 1) r
def fnV (P : Program) (f : IFn) (S : Spec) : Prop :=
  ∀ x, S.pre x → vc P 0 f.body (fun e s => match e with
    | .normal => finV f.res s (S.res x) (S.obs x)
    | .exit _ => False
    | .ret => finV f.res s (S.res x) (S.obs x)) ⟨argEnv 0 (S.args x), [], 0⟩

/-- What a function that is given objects leaves: the objects at the ids 0 .. are the given ones, then come new ones. -/
def meetF (ρ : List (Nat × Nat)) (s : St) (n : Nat) : Nat → List Ob → Prop
  | _, [] => True
  | k, .dead :: r => meetF ρ s n (k + 1) r
  | k, o :: r => (look s.heap (ren ρ k) = some (renO ρ o) ∧ bndO n o = true) ∧ meetF ρ s n (k + 1) r
def resG1 (ρ : List (Nat × Nat)) (n : Nat) (σ : List Nat) (H : List (Nat × Ob)) (v r : SV) : Prop :=
  match gk r with
  | true => v = renV ρ r ∧ bnd1 n r = true
  | false => leV (outV σ H v) r
def resGs (ρ : List (Nat × Nat)) (n : Nat) (σ : List Nat) (H : List (Nat × Ob)) : List SV → List SV → Prop
  | [], [] => True
  | v :: r, x :: t => resG1 ρ n σ H v x ∧ resGs ρ n σ H r t
  | _, _ => False
def resG (ρ : List (Nat × Nat)) (n : Nat) (σ : List Nat) (H : List (Nat × Ob)) : List SV → SV → Prop
  | [v], r => resG1 ρ n σ H v r
  | vs, .tup rs => resGs ρ n σ H vs rs
  | _, _ => False
def finG (res : List RV) (s : St) (n0 : Nat) (r : SV) (fin obs : List Ob) : Prop :=
  ∃ σ : List Nat, nodupB (upFrom 0 n0 ++ σ) = true ∧ (Nat.beq fin.length n0 && Nat.beq σ.length obs.length) = true ∧ meetF (sig 0 (upFrom 0 n0 ++ σ)) s (fin.length + obs.length) 0 (fin ++ obs) ∧ match resL s res with
    | some vs => resG (sig 0 (upFrom 0 n0 ++ σ)) (fin.length + obs.length) (upFrom 0 n0 ++ σ) s.heap vs r
    | none => False
def fnG (P : Program) (f : IFn) (S : GSpec) : Prop :=
  ∀ x, S.pre x → vc P (S.ins x).length f.body (fun e s => match e with
    | .normal => finG f.res s (S.ins x).length (S.res x) (S.fin x) (S.obs x)
    | .exit _ => False
    | .ret => finG f.res s (S.ins x).length (S.res x) (S.fin x) (S.obs x)) ⟨argEnv 0 (S.args x), idxFrom 0 (S.ins x), (S.ins x).length⟩

end Go.Proofs.Ytbglmocgijlomaa

/- From the program's text to the abstract walk's. No program in sight. -/
namespace Go.Proofs.Ytbglmocgijlomaa
open Go.RowKit

structure Opts where
  wraps : List Nat := []
  owns : List (Nat × Nat) := []
  gives : List Nat := []
  frz : List Nat := []
  muts : List Nat := []
  seals : List (Nat × Nat) := []
  gvs : List Nat := []
  tls : List Nat := []
  exts : List Nat := []
  bxs : List Nat := []
  eps : List Nat := []

def tmpOf : Operand → Option Nat
  | .tmp t => some t
  | _ => none
def aggD : TypeDesc → Bool
  | .struct _ | .array _ _ => true
  | _ => false
def constC (v : Value) : CV :=
  match v with
  | .int k n => .int k n
  | .bool b => .bool b
  | .slice none 0 0 => .nil
  | v => .raw v
def zerosOf (P : Program) (t : TypeId) : Option (List CV) :=
  match P.info? t with
  | some i => match i.zero with
    | some z => if z.cells.toList.all (·.oneCell') then some (z.cells.toList.map constC) else none
    | none => none
  | none => none
def sizeOfT (P : Program) (t : TypeId) : Option Nat := (P.info? t).map (·.size)
def hasT (d : Option Nat) (l : List Nat) : Bool :=
  match d with
  | some t => l.elem t
  | none => false
def findT (d : Option Nat) (l : List (Nat × Nat)) : Option Nat :=
  match d with
  | some t => look l t
  | none => none
def chunks (k : Nat) : Nat → List CV → List (List CV)
  | 0, _ => []
  | n + 1, z => z.take k :: chunks k n (z.drop k)
def inOrder : Nat → List (Nat × Operand) → Bool
  | _, [] => true
  | k, p :: r => Nat.beq p.1 k && inOrder (k + 1) r
def partsOf (places : List (Nat × Nat)) : List (Nat × Operand) → Option (List (Nat × Nat))
  | [] => some []
  | p :: r => match places[p.1]?, partsOf places r with
    | some q, some l => some (q :: l)
    | _, _ => none
def isNil : Operand → Bool
  | .const (.slice none 0 0) => true
  | _ => false
def isCmp : BinOp → Bool
  | .eql | .neq | .lss | .leq | .gtr | .geq => true
  | _ => false

/-- The cells of a type whose values are equal where their cells are. -/
def eqT (P : Program) : Nat → TypeId → Option (List Bool)
  | 0, _ => none
  | d + 1, t => match P.underlying t with
    | some (.int _) => some [false]
    | some .bool => some [true]
    | some (.struct fs) => if P.stoodInHeld t then none else eqFs (eqT P d) (fun u => (P.underlying u).map aggD) (sizeOfT P) 0 fs.toList
    | _ => none
where eqFs (g : TypeId → Option (List Bool)) (ag : TypeId → Option Bool) (sz : TypeId → Option Nat) : Nat → List Field → Option (List Bool)
  | _, [] => some []
  | n, f :: r => match g f.type, ag f.type, sz f.type with
    | some l, some b, some k' => if f.name ≠ "_" ∧ f.offset = n ∧ l.length = k' ∧ 0 < k' ∧ (b = false → k' = 1) then (match eqFs g ag sz (n + l.length) r with
      | some m => some (l ++ m)
      | none => none) else none
    | _, _, _ => none

def lowBin (P : Program) (q : Opts) (d : Option Nat) (o : BinOp) (t : TypeId) (x y : Operand) : Option (IOp × List Operand) :=
  match P.underlying t with
  | some (.int k) => if isCmp o then some (.cmp o, [x, y]) else some (.bin o k (hasT d q.wraps), [x, y])
  | some .bool => (match o with
    | .eql => some (.eqb false, [x, y])
    | .neq => some (.eqb true, [x, y])
    | _ => none)
  | some (.struct _) => (match eqT P 8 t with
    | some k => if P.eqGuardType P.depth t then none else (match o with
      | .eql => some (.eqa k false, [x, y])
      | .neq => some (.eqa k true, [x, y])
      | _ => none)
    | none => none)
  | _ => none
def lowBinN (P : Program) (q : Opts) (d : Option Nat) (o : BinOp) (t : TypeId) (x y : Operand) : Option (IOp × List Operand) :=
  match P.underlying t, isNil y with
  | some (.slice _), true => (match o with
    | .eql => some (.isnil false, [x])
    | .neq => some (.isnil true, [x])
    | _ => none)
  | _, _ => lowBin P q d o t x y
def lowBuiltin (P : Program) (b : Builtin) (args : List Operand) (ts : List TypeId) : Option (IOp × List Operand) :=
  match b with
  | .len => (match args, ts with
    | [x], [t] => (match P.underlying t with
      | some (.slice _) => some (.len, [x])
      | _ => none)
    | _, _ => none)
  | .clear => (match args, ts with
    | [x], [t] => (match P.underlying t with
      | some (.slice e) => (match sizeOfT P e, zerosOf P e with
        | some (k + 1), some z => if z.length = k + 1 then some (.clr (k + 1) z, [x]) else none
        | _, _ => none)
      | _ => none)
    | _, _ => none)
  | .min => (match args with
    | [x, y] => some (.min, [x, y])
    | _ => none)
  | .max => (match args with
    | [x, y] => some (.max, [x, y])
    | _ => none)
  | .append => (match args, ts with
    | [x, y], [t, t'] => if t = t' then (match P.underlying t with
      | some (.slice e) => (match P.info? e with
        | some i => (match i.zero with
          | some z => if z.cells.size = i.size ∧ 0 < i.size then some (.append e i.size i.bytes, [x, y]) else none
          | none => none)
        | none => none)
      | _ => none) else none
    | _, _ => none)
  | _ => none
def lowCall (P : Program) (q : Opts) (d : Option Nat) (c : Call) : Option (IOp × List Operand) :=
  match c.callee with
  | .builtin b => lowBuiltin P b c.args.toList c.argTypes.toList
  | .value (.func f) => if callable P f then (if hasT d q.exts then some (.callx f, c.args.toList) else if hasT d q.gvs then some (.callg f, c.args.toList) else if hasT d q.muts then some (.callm f, c.args.toList) else if hasT d q.gives then some (.callo f, c.args.toList) else some (.call f, c.args.toList)) else none
  | .value (.tmp t) => some (.callv, .tmp t :: c.args.toList)
  | _ => none

/-- The key's type: 0 a number, n a struct of n numbers. -/
def keyFs (P : Program) : Nat → List Field → Bool
  | _, [] => true
  | n, f :: r => (match P.underlying f.type with
    | some (.int .i64) => true
    | _ => false) && (decide (f.name ≠ "_") && (Nat.beq f.offset n && keyFs P (n + 1) r))
def keyT (P : Program) (K : TypeId) : Option Nat :=
  match P.underlying K with
  | some (.int .i64) => some 0
  | some (.struct fs) => match eqT P 8 K with
    | some l => if l.all (fun b => !b) && (Nat.beq l.length fs.size && (Nat.blt 0 fs.size && (keyFs P 0 fs.toList && !P.eqGuardType P.depth K))) then some fs.size else none
    | none => none
  | _ => none

/-- A map's type: its key, and whether it holds structs; and the zero of what it holds. -/
def mapT (P : Program) (t : TypeId) : Option (Nat × Bool) :=
  match P.underlying t with
  | some (.map K E) => match keyT P K, P.underlying E with
    | some kn, some u => some (kn, aggD u)
    | _, _ => none
  | _ => none
def elemZ (P : Program) (t : TypeId) : Option (List CV) :=
  match P.underlying t with
  | some (.map _ E) => match P.info? E, P.underlying E with
    | some i, some u => match i.zero with
      | some (.agg cs) => if aggD u then some (cs.toList.map constC) else none
      | some v => if aggD u then none else some [constC v]
      | none => none
    | _, _ => none
  | _ => none

def lowOp (P : Program) (q : Opts) (d : Option Nat) (op : Op) : Option (IOp × List Operand) :=
  match op with
  | .move x => some (.mov, [x])
  | .assign x => match isNil x, findT d q.owns with
    | true, some e => match sizeOfT P e with
      | some k => some (.nilOwn e k, [])
      | none => none
    | _, _ => some (.mov, [x])
  | .pick c a b => some (.pick, [c, a, b])
  | .panic _ => some (.bad, [])
  | .alloc t => match P.underlying t with
    | some (.array n e) => (match sizeOfT P e, zerosOf P t with
      | some k, some z => if 0 < k ∧ z.length = n * k ∧ n ≤ 1000000 then some (.allocA t k (chunks k n z), []) else none
      | _, _ => none)
    | _ => match zerosOf P t with
      | some z => some (.alloc z, [])
      | none => none
  | .box _ x => some (.box, [x])
  | .build t ps => match zerosOf P t, P.underlying t with
    | some z, some (.struct fs) => match fs.toList.mapM (fun f => (P.info? f.type).map fun i => (f.offset, i.size)) with
      | some places => match partsOf places ps.toList with
        | some l => some (.build z l, ps.toList.map (·.2))
        | none => none
      | none => none
    | _, _ => none
  | .buildSlice t n ps => match P.underlying t with
    | some (.slice e) => match P.info? e with
      | some i => match i.zero with
        | some z => if z.cells.size = i.size ∧ 0 < i.size ∧ n * i.size ≤ 16777216 ∧ n = ps.size ∧ inOrder 0 ps.toList then
            match findT d q.owns with
            | some _ => some (.buildOwn e i.size, ps.toList.map (·.2))
            | none => some (.buildSl e i.size, ps.toList.map (·.2))
          else none
        | none => none
      | none => none
    | _ => none
  | .load t x => match sizeOfT P t, P.underlying t with
    | some m, some (.array n e) => (match sizeOfT P e with
      | some k => if m = n * k then some (.loadA n k, [x]) else none
      | none => none)
    | some k, some u => if aggD u = false → k = 1 then (if hasT d q.bxs then some (.loadB k (aggD u), [x]) else some (.load k (aggD u), [x])) else none
    | _, _ => none
  | .store t a v => match sizeOfT P t with
    | some k => if hasT (tmpOf a) q.eps then some (.storeE k, [a, v]) else some (.store k, [a, v])
    | none => none
  | .nilCheck x => some (.nilchk, [x])
  | .binOp o t x y _ => lowBinN P q d o t x y
  | .unOp o t x => match o, P.underlying t with
    | .not, _ => some (.not, [x])
    | .neg, some (.int k) => some (.neg k, [x])
    | _, _ => none
  | .convert st dt x => match P.underlying st, P.underlying dt with
    | some _, some (.int k) => some (.conv k, [x])
    | _, _ => none
  | .makeFunc (.func f) first caps => if first.size = 0 then some (.fn f, caps.toList) else none
  | .makeSlice t l c => match P.underlying t with
    | some (.slice e) => match P.info? e, zerosOf P e with
      | some i, some z => if z.length = i.size ∧ 0 < i.size then some (.mksl e i.size i.bytes z, [l, c]) else none
      | _, _ => none
    | _ => none
  | .slice t x lo hi none => match P.underlying t with
    | some (.slice e) => match sizeOfT P e with
      | some k => if hasT d q.tls && (lo.isSome && !hi.isSome) then some (.subo k, x :: lo.toList) else if hasT d q.frz then some (.sliceF k lo.isSome hi.isSome, x :: lo.toList ++ hi.toList) else some (.slice k lo.isSome hi.isSome, x :: lo.toList ++ hi.toList)
      | none => none
    | _ => none
  | .fieldAddr t x f => match P.underlying t with
    | some (.struct fs) => match fs[f]? with
      | some fl => match sizeOfT P fl.type with
        | some (_ + 1) => some (.faddr fl.offset, [x])
        | _ => none
      | none => none
    | _ => none
  | .field t x f => match P.underlying t with
    | some (.struct fs) => match fs[f]? with
      | some fl => match sizeOfT P fl.type, P.underlying fl.type with
        | some k, some u => if aggD u = false → k = 1 then some (.field fl.offset k (aggD u), [x]) else none
        | _, _ => none
      | none => none
    | _ => none
  | .indexAddr t x i => match P.underlying t with
    | some (.slice e) => match sizeOfT P e with
      | some k => some (.idx k, [x, i])
      | none => none
    | some (.array n e) => match sizeOfT P e with
      | some k => some (.aidx n k, [x, i])
      | none => none
    | _ => none
  | .index t x i => match P.underlying t with
    | some (.array n e) => match sizeOfT P e, P.underlying e with
      | some k, some u => if aggD u = false → k = 1 then some (.aget n k (aggD u), [x, i]) else none
      | _, _ => none
    | _ => none
  | .extract x i => some (.extract i, [x])
  | .call c => lowCall P q d c
  | .makeMap t r => match mapT P t with
    | some (kn, ag) => some (.mkmap kn ag, r.toList)
    | none => none
  | .mapUpdate t m k v => match mapT P t with
    | some (kn, ag) => some (.mapset kn ag, [m, k, v])
    | none => none
  | .lookup t m k ok => match mapT P t, elemZ P t with
    | some (kn, ag), some z => some (.lookup z kn ag ok, [m, k])
    | _, _ => none
  | _ => none

def lowIO (P : Program) (q : Opts) (ops : Array Oper) (o : Oper) : Option Opn :=
  match lowOp P q o.dst o.op with
  | some (io, args) => match o.guard with
    | none => some ⟨o.dst, io, args, none⟩
    | some (j, b) => match ops[j]? with
      | some oj => match oj.dst with
        | some t => some ⟨o.dst, io, args, some (t, b)⟩
        | none => none
      | none => none
  | none => none
def lowIOs (P : Program) (q : Opts) (ops : Array Oper) : List Oper → Option (List Opn)
  | [] => some []
  | o :: r => match lowIO P q ops o, lowIOs P q ops r with
    | some x, some l => some (x :: l)
    | _, _ => none

def dstOk (n : Nat) : Option Nat → Bool
  | some t => Nat.blt t n
  | none => true
end Go.Proofs.Ytbglmocgijlomaa

/- The abstract walk is sound: operations that change nothing of what the call owns. No program in sight. -/
namespace Go.Proofs.Ytbglmocgijlomaa
open Go.RowKit

/-! ### one value for every order -/
theorem norm_yields {v : SV} {K : SV → Prop} (h : norm v K) : ∃ u, norm v (· = u) ∧ K u := by
  unfold norm at *
  split at h
  · rename_i b
    cases b
    · exact ⟨_, ⟨fun h => (by cases h), fun _ => rfl⟩, h.2 rfl⟩
    · exact ⟨_, ⟨fun _ => rfl, fun h => (by cases h)⟩, h.1 rfl⟩
  · exact ⟨v, rfl, h⟩
theorem norm_mono {v : SV} {K K' : SV → Prop} (hk : ∀ u, K u → K' u) (h : norm v K) : norm v K' := by
  unfold norm at *
  split at h
  · exact ⟨fun e => hk _ (h.1 e), fun e => hk _ (h.2 e)⟩
  · exact hk _ h
theorem spl_yields {p : Prop} {K : SV → Prop} (h : spl p K) : ∃ u, spl p (· = u) ∧ K u := by
  by_cases hp : p
  · exact ⟨_, ⟨fun _ => rfl, fun h => absurd hp h⟩, h.1 hp⟩
  · exact ⟨_, ⟨fun h => absurd h hp, fun _ => rfl⟩, h.2 hp⟩
theorem fromCells_yields {ag : Bool} {cs : List SV} {K : SV → Prop} (h : fromCells ag cs K) : ∃ u, fromCells ag cs (· = u) ∧ K u := by
  unfold fromCells at *
  cases ag
  · cases cs with
    | nil => exact h.elim
    | cons c r => exact norm_yields h
  · exact ⟨_, rfl, h⟩
theorem binV_yields {op : BinOp} {kd : IntKind} {wr : Bool} {a b : Int} {K : SV → Prop} (h : binV op kd wr a b K) : ∃ u, binV op kd wr a b (· = u) ∧ K u := by
  unfold binV at *
  cases op <;> cases wr <;> first | exact h.elim | exact ⟨_, rfl, h⟩ | exact ⟨_, ⟨h.1, rfl⟩, h.2⟩
theorem cmpV_yields {op : BinOp} {a b : Int} {K : SV → Prop} (h : cmpV op a b K) : ∃ u, cmpV op a b (· = u) ∧ K u := by
  unfold cmpV at *
  cases op <;> first | exact h.elim | exact spl_yields h
theorem fromCells_mono {ag : Bool} {cs : List SV} {K K' : SV → Prop} (hk : ∀ u, K u → K' u) (h : fromCells ag cs K) : fromCells ag cs K' := by
  unfold fromCells norm at *
  cases ag
  · cases cs with
    | nil => exact h.elim
    | cons c r =>
      dsimp only at h ⊢
      split at h
      · exact ⟨fun e => hk _ (h.1 e), fun e => hk _ (h.2 e)⟩
      · exact hk _ h
  · exact hk _ h

set_option maxHeartbeats 1000000 in
theorem pop_yields {P : Program} {op : IOp} {H : List (Nat × Ob)} {xs : List SV} {K : SV → Prop} (h : pop P op H xs K) : ∃ u, pop P op H xs (· = u) ∧ K u := by
  unfold pop at *
  cases op <;> dsimp only at h ⊢
  case mov => split at h <;> first | exact ⟨_, rfl, h⟩ | exact h.elim
  case pick => split at h <;> first | exact ⟨_, rfl, h⟩ | exact h.elim
  case build => split at h <;> first | exact ⟨_, rfl, h⟩ | exact h.elim
  case buildSl => split at h <;> first | exact ⟨_, rfl, h⟩ | exact h.elim
  case load k ag =>
    split at h
    · split at h
      · obtain ⟨h0, h⟩ := chk_iff.1 h
        obtain ⟨u, h1, h2⟩ := fromCells_yields h
        exact ⟨u, chk_iff.2 ⟨h0, h1⟩, h2⟩
      · exact h.elim
    · obtain ⟨h0, h⟩ := chk_iff.1 h
      obtain ⟨u, h1, h2⟩ := fromCells_yields h
      exact ⟨u, chk_iff.2 ⟨h0, h1⟩, h2⟩
    · split at h
      · rename_i es _
        obtain ⟨ha, hi, hr⟩ := chk_iff.1 h
        obtain ⟨u, h1, h2⟩ := fromCells_yields (hr _ (List.getElem?_eq_getElem hi))
        refine ⟨u, chk_iff.2 ⟨ha, hi, fun r hrr => ?_⟩, h2⟩
        rw [List.getElem?_eq_getElem hi] at hrr
        cases hrr
        exact h1
      · exact h.elim
    · exact h.elim
  case loadB k ag =>
    split at h
    · split at h
      · obtain ⟨h0, h⟩ := chk_iff.1 h
        obtain ⟨u, h1, h2⟩ := fromCells_yields h
        exact ⟨u, chk_iff.2 ⟨h0, h1⟩, h2⟩
      · exact h.elim
    · obtain ⟨h0, h⟩ := chk_iff.1 h
      obtain ⟨u, h1, h2⟩ := fromCells_yields h
      exact ⟨u, chk_iff.2 ⟨h0, h1⟩, h2⟩
    · exact h.elim
  case bin =>
    split at h
    · split at h
      · exact binV_yields h
      · exact h.elim
    · exact h.elim
  case cmp =>
    split at h
    · split at h
      · exact cmpV_yields h
      · exact h.elim
    · exact h.elim
  case eqb =>
    split at h
    · split at h <;> exact spl_yields h
    · exact h.elim
  case eqa =>
    split at h
    · split at h
      · split at h <;> exact spl_yields h
      · exact h.elim
    · exact h.elim
  case not => split at h <;> first | exact ⟨_, rfl, h⟩ | exact h.elim
  case neg =>
    split at h
    · split at h <;> first | exact ⟨_, ⟨h.1, rfl⟩, h.2⟩ | exact h.elim
    · exact h.elim
  case conv => split at h <;> first | exact ⟨_, ⟨h.1, rfl⟩, h.2⟩ | exact h.elim
  case fn => exact ⟨_, rfl, h⟩
  case slice =>
    split at h
    · split at h
      · obtain ⟨h0, h1, h2⟩ := chk_iff.1 h
        exact ⟨_, chk_iff.2 ⟨h0, h1, rfl⟩, h2⟩
      · exact h.elim
    · exact h.elim
  case faddr =>
    split at h
    · obtain ⟨h0, h⟩ := chk_iff.1 h
      exact ⟨_, chk_iff.2 ⟨h0, rfl⟩, h⟩
    · split at h <;> first | exact ⟨_, rfl, h⟩ | exact h.elim
    · split at h <;> first | exact ⟨_, rfl, h⟩ | exact h.elim
    · exact h.elim
  case field =>
    split at h
    · obtain ⟨h0, h⟩ := chk_iff.1 h
      obtain ⟨u, h1, h2⟩ := fromCells_yields h
      exact ⟨u, chk_iff.2 ⟨h0, h1⟩, h2⟩
    · exact h.elim
  case idx =>
    split at h
    · rename_i k' es kd i
      obtain ⟨ha, ⟨hb, hc⟩, hr⟩ := chk_iff.1 h
      have hi := List.getElem?_eq_getElem (l := es) (i := i.toNat) (by omega)
      refine ⟨_, chk_iff.2 ⟨ha, ⟨hb, hc⟩, fun r hrr => ?_⟩, hr _ hi⟩
      rw [hi] at hrr
      cases hrr
      rfl
    · split at h
      · obtain ⟨h0, h1, h2⟩ := chk_iff.1 h
        exact ⟨_, chk_iff.2 ⟨h0, h1, rfl⟩, h2⟩
      · exact h.elim
    · exact h.elim
  case subo =>
    split at h
    · split at h
      · obtain ⟨h0, h1, h2⟩ := chk_iff.1 h
        exact ⟨_, chk_iff.2 ⟨h0, h1, rfl⟩, h2⟩
      · exact h.elim
    · exact h.elim
  case aidx =>
    split at h
    · split at h
      · obtain ⟨h0, h1, h2⟩ := chk_iff.1 h
        exact ⟨_, chk_iff.2 ⟨h0, h1, rfl⟩, h2⟩
      · exact h.elim
    · exact h.elim
  case aget =>
    split at h
    · rename_i i
      obtain ⟨es, h1, h2, h3, h4⟩ := h
      have hi := List.getElem?_eq_getElem (l := es) (i := i.toNat) (by omega)
      obtain ⟨u, g1, g2⟩ := fromCells_yields (h4 _ hi)
      refine ⟨u, ⟨es, h1, h2, h3, fun r hr => ?_⟩, g2⟩
      rw [hi] at hr; cases hr; exact g1
    · exact h.elim
  case loadA =>
    split at h
    · split at h
      · obtain ⟨h0, h1, h2⟩ := chk_iff.1 h
        exact ⟨_, chk_iff.2 ⟨h0, h1, rfl⟩, h2⟩
      · exact h.elim
    · exact h.elim
  case extract =>
    split at h
    · split at h
      · exact norm_yields h
      · exact h.elim
    · exact h.elim
  case len =>
    split at h
    · exact ⟨_, rfl, h⟩
    · exact ⟨_, rfl, h⟩
    · split at h <;> first | exact ⟨_, rfl, h⟩ | exact h.elim
    · exact h.elim
  case min => split at h <;> first | exact ⟨_, rfl, h⟩ | exact h.elim
  case max => split at h <;> first | exact ⟨_, rfl, h⟩ | exact h.elim
  case nilchk =>
    split at h
    · exact ⟨_, rfl, h⟩
    · split at h <;> first | exact ⟨_, rfl, h⟩ | exact h.elim
    · split at h <;> first | exact ⟨_, rfl, h⟩ | exact h.elim
    · exact ⟨_, rfl, h⟩
    · exact h.elim
  case call =>
    obtain ⟨S, hS, x, hp, hl, hf, ho, hn⟩ := h
    obtain ⟨u, h1, h2⟩ := norm_yields hn
    exact ⟨u, ⟨S, hS, x, hp, hl, hf, ho, h1⟩, h2⟩
  case callv =>
    split at h
    · obtain ⟨hc, S, hS, x, hp, hl, hf, ho, hn⟩ := h
      obtain ⟨u, h1, h2⟩ := norm_yields hn
      exact ⟨u, ⟨hc, S, hS, x, hp, hl, hf, ho, h1⟩, h2⟩
    · exact h.elim
  all_goals exact h.elim

theorem loadB_load {P : Program} {k : Nat} {ag : Bool} {H : List (Nat × Ob)} {xs : List SV} {K : SV → Prop} (h : pop P (.loadB k ag) H xs K) : pop P (.load k ag) H xs K := by
  unfold pop at *
  dsimp only at h ⊢
  split at h
  · exact h
  · exact h
  · exact h.elim
theorem storeE_store {P : Program} {k : Nat} {s : St} {xs : List SV} {K : SV → St → Prop} (h : eop P (.storeE k) s xs K) : eop P (.store k) s xs K := by
  unfold eop at *
  dsimp only at h ⊢
  split at h
  · exact h
  · exact h.elim
end Go.Proofs.Ytbglmocgijlomaa

/- The abstract walk is sound: what each quiet operation does. No program in sight. -/
namespace Go.Proofs.Ytbglmocgijlomaa
open Go.RowKit

theorem addr_add (b off j : Nat) : (⟨b, off, none⟩ : Addr).add j = ⟨b, off + j, none⟩ := by
  unfold Addr.add; split <;> simp_all

section
variable {P : Program} {w : World}
theorem run_sizeT {t : TypeId} {k : Nat} (h : sizeOfT P t = some k) (w : World) : (sizeOf t).run P w = .ok k w := by
  unfold sizeOfT at h
  cases hi : P.info? t with
  | none => rw [hi] at h; cases h
  | some i =>
    rw [hi] at h
    simp at h
    simp [sizeOf, typeInfo, hi, h]
theorem run_aggT {t : TypeId} {u : TypeDesc} (h : P.underlying t = some u) (w : World) : (isAgg t).run P w = .ok (aggD u) w := by
  unfold isAgg
  simp only [Sem.run_bind, run_underlying h, Result.andThen_ok]
  cases u <;> rfl

theorem run_loadD {t : TypeId} {u : TypeDesc} {k b off : Nat} {us : List Value} (hu : P.underlying t = some u) (hk : sizeOfT P t = some k) (hk1 : aggD u = false → k = 1) (hl : us.length = k)
    (hc : ∀ (j : Nat) (v : Value), us[j]? = some v → w.cell? ⟨b, off + j, none⟩ = some v) :
    ∃ x, (loadVar t ⟨b, off, none⟩).run P w = .ok x w ∧ ((aggD u = true ∧ x = .agg us.toArray) ∨ (aggD u = false ∧ us = [x])) := by
  cases ha : aggD u with
  | true =>
    refine ⟨.agg us.toArray, ?_, .inl ⟨rfl, rfl⟩⟩
    have hlc := run_loadCells_list (P := P) (w := w) ⟨b, off, none⟩ us (fun j v hv => by rw [addr_add]; exact hc j v hv)
    rw [hl] at hlc
    unfold loadVar
    simp only [Sem.run_bind, run_aggT hu, Result.andThen_ok, ha, run_sizeT hk, hlc, if_true, Sem.run_pure]
  | false =>
    have h1 := hk1 ha
    subst h1
    obtain ⟨x, rfl⟩ : ∃ x, us = [x] := by
      cases us with
      | nil => simp at hl
      | cons x r => cases r with
        | nil => exact ⟨x, rfl⟩
        | cons y r => simp at hl
    refine ⟨x, ?_, .inr ⟨rfl, rfl⟩⟩
    have := hc 0 x rfl
    unfold loadVar
    simp only [Sem.run_bind, run_aggT hu, Result.andThen_ok, ha, run_load, Bool.false_eq_true, if_false]
    rw [Nat.add_zero] at this
    simp [this]
end

/-- The operation yields a value in a world of which R holds. -/
def Gives (P : Program) (o : Oper) (a : Act) (w : World) (R : Value → World → Prop) : Prop :=
  ∀ (K : Act → World → Prop) (Q : Exit → Act → World → Prop), (∀ u w', DrLe w w' → R u w' → K (a.put o.dst u) w') → o.wp P a w K Q
theorem gives_value {P : Program} {o : Oper} {a : Act} {w w' : World} {R : Value → World → Prop} {u : Value} (h : (execOp a.eval o).run P w = .ok (.value u) w') (hr : R u w') : Gives P o a w R := by
  intro K Q hk
  unfold Oper.wp
  rw [h]
  exact hk _ _ (fun _ => run_drawn _ _ _ _ h) hr
theorem gives_skip {P : Program} {o : Oper} {a : Act} {w w' : World} {R : Value → World → Prop} (h : (execOp a.eval o).run P w = .ok .skip w') (hr : R undef w') : Gives P o a w R := by
  intro K Q hk
  unfold Oper.wp
  rw [h]
  exact hk _ _ (fun _ => run_drawn _ _ _ _ h) hr
theorem gives_call {P : Program} {o : Oper} {a : Act} {w : World} {R : Value → World → Prop} {f : FuncId} {args : Array Value} (h : (execOp a.eval o).run P w = .ok (.enter f args) w)
    (hc : Calls P f args w fun e w' => ∃ u, e = .returned u ∧ DrLe w w' ∧ R u w') : Gives P o a w R := by
  intro K Q hk
  unfold Oper.wp
  rw [h]
  exact hc.mono fun e w' ⟨u, he, hd, hr⟩ => by subst he; exact hk _ _ hd hr

section
variable {w : World} {own : Nat → Prop} {ι : Iota} {H : List (Nat × Ob)} {nx : Nat}
theorem replist_nil {us : List Value} (h : RepList w own ι H nx [] us) : us = [] := by
  obtain ⟨h, _⟩ := h
  exact List.eq_nil_of_length_eq_zero h.symm
theorem replist_cons {x : SV} {xs : List SV} {us : List Value} (h : RepList w own ι H nx (x :: xs) us) : ∃ u r, us = u :: r ∧ Rep w own ι H nx x u ∧ RepList w own ι H nx xs r := by
  obtain ⟨hl, h⟩ := h
  cases us with
  | nil => simp at hl
  | cons u r => exact ⟨u, r, rfl, h 0 x u rfl rfl, by simpa using hl, fun i s v hs hv => h (i + 1) s v (by simpa using hs) (by simpa using hv)⟩
theorem replist_mk {x : SV} {xs : List SV} {u : Value} {us : List Value} (h : Rep w own ι H nx x u) (hr : RepList w own ι H nx xs us) : RepList w own ι H nx (x :: xs) (u :: us) := by
  refine ⟨by simp [hr.1], fun i s v hs hv => ?_⟩
  cases i with
  | zero => simp at hs hv; subst hs; subst hv; exact h
  | succ i => exact hr.2 i s v (by simpa using hs) (by simpa using hv)
theorem replist_mk0 : RepList w own ι H nx [] [] := ⟨rfl, fun i s v hs _ => by simp at hs⟩
theorem replist_one {x : SV} {us : List Value} (h : RepList w own ι H nx [x] us) : ∃ u, us = [u] ∧ Rep w own ι H nx x u := by
  obtain ⟨u, r, rfl, h1, h2⟩ := replist_cons h
  exact ⟨u, by rw [replist_nil h2], h1⟩
theorem replist_two {x y : SV} {us : List Value} (h : RepList w own ι H nx [x, y] us) : ∃ u v, us = [u, v] ∧ Rep w own ι H nx x u ∧ Rep w own ι H nx y v := by
  obtain ⟨u, r, rfl, h1, h2⟩ := replist_cons h
  obtain ⟨v, rfl, h3⟩ := replist_one h2
  exact ⟨u, v, rfl, h1, h3⟩
theorem replist_three {x y z : SV} {us : List Value} (h : RepList w own ι H nx [x, y, z] us) : ∃ u v t, us = [u, v, t] ∧ Rep w own ι H nx x u ∧ Rep w own ι H nx y v ∧ Rep w own ι H nx z t := by
  obtain ⟨u, r, rfl, h1, h2⟩ := replist_cons h
  obtain ⟨v, t, rfl, h3, h4⟩ := replist_two h2
  exact ⟨u, v, t, rfl, h1, h3, h4⟩

theorem rep_int {k : IntKind} {n : Int} {v : Value} (h : Rep w own ι H nx (.c (.int k n)) v) : v = .int k n := by
  cases h with | c _ _ h => cases h; rfl
theorem rep_bool {b : Bool} {v : Value} (h : Rep w own ι H nx (.c (.bool b)) v) : v = .bool b := by
  cases h with | c _ _ h => cases h; rfl
theorem rep_nil {v : Value} (h : Rep w own ι H nx (.c .nil) v) : v = .slice none 0 0 := by
  cases h with | c _ _ h => cases h; rfl
theorem rep_mk_int (k : IntKind) (n : Int) : Rep w own ι H nx (.c (.int k n)) (.int k n) := .c _ _ (.int k n)
theorem rep_mk_bool (b : Bool) : Rep w own ι H nx (.c (.bool b)) (.bool b) := .c _ _ (.bool b)

theorem norm_rep {s v : SV} {u : Value} (h : norm s (· = v)) (hr : Rep w own ι H nx s u) : Rep w own ι H nx v u := by
  unfold norm at h
  split at h
  · rename_i b
    have := rep_bool hr
    subst this
    cases b
    · rw [← h.2 rfl]; exact rep_mk_bool _
    · rw [← h.1 rfl]; exact rep_mk_bool _
  · rw [← h]; exact hr
theorem spl_bool {p : Prop} {v : SV} (h : spl p (· = v)) : ∃ b : Bool, v = .c (.bool b) ∧ (b = true ↔ p) := by
  by_cases hp : p
  · exact ⟨true, (h.1 hp).symm, by simp [hp]⟩
  · exact ⟨false, (h.2 hp).symm, by simp [hp]⟩
theorem fromCells_rep {u : TypeDesc} {cs : List SV} {us : List Value} {x : Value} {v : SV} (h : fromCells (aggD u) cs (· = v)) (hr : RepList w own ι H nx cs us) (hc : ∀ s ∈ cs, s.cell = true)
    (hx : (aggD u = true ∧ x = .agg us.toArray) ∨ (aggD u = false ∧ us = [x])) : Rep w own ι H nx v x := by
  unfold fromCells at h
  rcases hx with ⟨ha, rfl⟩ | ⟨ha, rfl⟩
  · rw [ha] at h
    subst h
    exact .agg cs us hr.1 hc hr.2
  · rw [ha] at h
    cases cs with
    | nil => exact h.elim
    | cons c r =>
      obtain ⟨u, t, e, h1, _⟩ := replist_cons hr
      cases e
      exact norm_rep h h1
theorem replist_map_c {cs : List CV} {us : List Value} (hl : us.length = cs.length) (h : ∀ (i : Nat) (c : CV) (v : Value), cs[i]? = some c → us[i]? = some v → RepC w own c v) : RepList w own ι H nx (cs.map .c) us := by
  refine ⟨by simp [hl], fun i s v hs hv => ?_⟩
  rw [List.getElem?_map] at hs
  cases hc : cs[i]? with
  | none => rw [hc] at hs; cases hs
  | some c => rw [hc] at hs; cases hs; exact .c _ _ (h i c v hc hv)
theorem cells_map_c (cs : List CV) : ∀ s ∈ cs.map SV.c, s.cell = true := by
  intro s hs
  obtain ⟨c, _, rfl⟩ := List.mem_map.1 hs
  rfl
theorem replist_sub {ss : List SV} {us : List Value} (h : RepList w own ι H nx ss us) (j k : Nat) : RepList w own ι H nx ((ss.drop j).take k) ((us.drop j).take k) := by
  refine ⟨by simp [h.1], fun i s v hs hv => ?_⟩
  rw [List.getElem?_take] at hs hv
  split at hs
  · rename_i hi
    rw [if_pos hi] at hv
    rw [List.getElem?_drop] at hs hv
    exact h.2 _ s v hs hv
  · cases hs
/-- Element i of rows of k cells. -/
theorem flatten_get {es : List (List CV)} {k : Nat} (hk : ∀ e ∈ es, e.length = k) : ∀ {i : Nat} {r : List CV}, es[i]? = some r → ∀ {j : Nat}, j < k → es.flatten[i * k + j]? = r[j]? := by
  induction es with
  | nil => intro i r h; simp at h
  | cons e t ih =>
    intro i r h j hj
    have he : e.length = k := hk e (by simp)
    cases i with
    | zero =>
      simp at h; subst h
      rw [List.flatten_cons, List.getElem?_append_left (by omega)]; simp
    | succ i =>
      simp at h
      rw [List.flatten_cons, List.getElem?_append_right (by rw [he, Nat.add_mul]; omega), he, show (i + 1) * k + j - k = i * k + j by rw [Nat.add_mul]; omega]
      exact ih (fun e he => hk e (by simp [he])) h hj
theorem flatten_len {es : List (List CV)} {k : Nat} (hk : ∀ e ∈ es, e.length = k) : es.flatten.length = es.length * k := by
  induction es with
  | nil => simp
  | cons e t ih =>
    rw [List.flatten_cons, List.length_append, hk e (by simp), ih (fun e he => hk e (by simp [he])), List.length_cons, Nat.add_mul]; omega
end
end Go.Proofs.Ytbglmocgijlomaa

/- The abstract walk is sound: equality of structs, cells and slices. No program in sight. -/
namespace Go.Proofs.Ytbglmocgijlomaa
open Go.RowKit

/-- Cells that are equal, as the machine compares them. -/
def eqB : List Bool → List Value → List Value → Option Bool
  | [], [], [] => some true
  | false :: ks, .int k a :: r, .int k' b :: t => if k = k' then (eqB ks r t).map ((a == b) && ·) else none
  | true :: ks, .bool a :: r, .bool b :: t => (eqB ks r t).map ((a == b) && ·)
  | _, _, _ => none
theorem eqB_nil {xs ys : List Value} {b : Bool} (h : eqB [] xs ys = some b) : xs = [] ∧ ys = [] ∧ b = true := by
  cases xs <;> cases ys <;> simp only [eqB] at h <;> first | (cases h; done) | skip
  cases h; exact ⟨rfl, rfl, rfl⟩
theorem eqB_cons {q : Bool} {ks : List Bool} {xs ys : List Value} {b : Bool} (h : eqB (q :: ks) xs ys = some b) :
    (q = false ∧ ∃ k a c b' r t, xs = .int k a :: r ∧ ys = .int k c :: t ∧ eqB ks r t = some b' ∧ b = ((a == c) && b')) ∨ (q = true ∧ ∃ a c b' r t, xs = .bool a :: r ∧ ys = .bool c :: t ∧ eqB ks r t = some b' ∧ b = ((a == c) && b')) := by
  unfold eqB at h
  split at h
  · rename_i _ _ e; cases e
  · rename_i k a r k' c t e
    cases e
    split at h
    · rename_i e
      subst e
      obtain ⟨b', h1, h2⟩ := Option.map_eq_some_iff.1 h
      exact .inl ⟨rfl, _, _, _, b', _, _, rfl, rfl, h1, h2.symm⟩
    · cases h
  · rename_i a r c t e
    cases e
    obtain ⟨b', h1, h2⟩ := Option.map_eq_some_iff.1 h
    exact .inr ⟨rfl, _, _, b', _, _, rfl, rfl, h1, h2.symm⟩
  · cases h
theorem eqB_len : ∀ {ks : List Bool} {xs ys : List Value} {b : Bool}, eqB ks xs ys = some b → xs.length = ks.length ∧ ys.length = ks.length
  | [], xs, ys, b, h => by obtain ⟨rfl, rfl, _⟩ := eqB_nil h; simp
  | q :: ks, xs, ys, b, h => by
    rcases eqB_cons h with ⟨_, k, a, c, b', r, t, rfl, rfl, h', rfl⟩ | ⟨_, a, c, b', r, t, rfl, rfl, h', rfl⟩ <;> (obtain ⟨h1, h2⟩ := eqB_len h'; simp [h1, h2])
theorem eqB_split : ∀ {k1 k2 : List Bool} {xs ys : List Value} {b : Bool}, eqB (k1 ++ k2) xs ys = some b → ∃ b1 b2, eqB k1 (xs.take k1.length) (ys.take k1.length) = some b1 ∧ eqB k2 (xs.drop k1.length) (ys.drop k1.length) = some b2 ∧ b = (b1 && b2)
  | [], k2, xs, ys, b, h => ⟨true, b, by simp [eqB], by simpa using h, by simp⟩
  | q :: k1, k2, xs, ys, b, h => by
    rcases eqB_cons h with ⟨rfl, k, a, c, b', r, t, rfl, rfl, h', rfl⟩ | ⟨rfl, a, c, b', r, t, rfl, rfl, h', rfl⟩
    · obtain ⟨b1, b2, h1, h2, rfl⟩ := eqB_split h'
      exact ⟨(a == c) && b1, b2, by simp only [List.length_cons, List.take_succ_cons, eqB, if_true, h1]; rfl, by simpa using h2, by rw [Bool.and_assoc]⟩
    · obtain ⟨b1, b2, h1, h2, rfl⟩ := eqB_split h'
      exact ⟨(a == c) && b1, b2, by simp only [List.length_cons, List.take_succ_cons, eqB, h1]; rfl, by simpa using h2, by rw [Bool.and_assoc]⟩

section
variable {P : Program}
theorem run_part {t : TypeId} {u : TypeDesc} {k : Nat} (hu : P.underlying t = some u) (hk : sizeOfT P t = some k) (hk1 : aggD u = false → k = 1) {cs : List Value} {off : Nat} (hl : off + k ≤ cs.length) (w : World) :
    ∃ x, (part t cs.toArray off).run P w = .ok x w ∧ ((aggD u = true ∧ x = .agg ((cs.drop off).take k).toArray) ∨ (aggD u = false ∧ (cs.drop off).take k = [x])) := by
  unfold part
  simp only [Sem.run_bind, run_aggT hu, Result.andThen_ok]
  cases ha : aggD u with
  | true =>
    refine ⟨.agg ((cs.drop off).take k).toArray, ?_, .inl ⟨rfl, rfl⟩⟩
    simp only [if_true, Sem.run_bind, run_sizeT hk, Result.andThen_ok, Sem.run_pure]
    congr 2
    simp [List.extract_eq_take_drop]
  | false =>
    have := hk1 ha
    subst this
    have hlt : off < cs.length := by omega
    refine ⟨cs[off], ?_, .inr ⟨rfl, ?_⟩⟩
    · simp [hlt]
    · rw [List.drop_eq_getElem_cons hlt]; rfl

theorem run_eqFs {g : TypeId → Option (List Bool)} {d : Nat} (hg : ∀ t l, g t = some l → ∀ (xs ys : List Value) (b : Bool) (x y : Value) (w : World), eqB l xs ys = some b →
      (((P.underlying t).map aggD = some true ∧ x = .agg xs.toArray ∧ y = .agg ys.toArray) ∨ ((P.underlying t).map aggD = some false ∧ xs = [x] ∧ ys = [y])) → (Op.equalIn d t x y).run P w = .ok b w) :
    ∀ (fs : List Field) (n : Nat) (m : List Bool), eqT.eqFs g (fun u => (P.underlying u).map aggD) (sizeOfT P) n fs = some m → ∀ (xs ys : List Value) (b : Bool) (w : World), eqB m (xs.drop n) (ys.drop n) = some b →
      (Op.eqFields d xs.toArray ys.toArray fs).run P w = .ok b w
  | [], n, m, h, xs, ys, b, w, hb => by
    simp [eqT.eqFs] at h
    subst h
    obtain ⟨_, _, rfl⟩ := eqB_nil hb
    simp [Op.eqFields]
  | f :: r, n, m, h, xs, ys, b, w, hb => by
    simp only [eqT.eqFs] at h
    split at h
    · rename_i l ag k' hgk hag hsz
      split at h
      · rename_i hc
        obtain ⟨hn, ho, rfl, hk0, hk1⟩ := hc
        split at h
        · rename_i m' hm'
          cases h
          cases hu : P.underlying f.type with
          | none => rw [hu] at hag; cases hag
          | some u =>
            rw [hu] at hag
            simp at hag
            subst hag
            obtain ⟨l1, l2⟩ := eqB_len hb
            simp only [List.length_drop, List.length_append] at l1 l2
            obtain ⟨b1, b2, e1, e2, rfl⟩ := eqB_split hb
            rw [List.drop_drop, List.drop_drop] at e2
            have hrun := run_eqFs hg r (n + l.length) m' hm' xs ys b2 w e2
            obtain ⟨x, hx, hx'⟩ := run_part (P := P) hu hsz hk1 (cs := xs) (off := n) (by have := eqB_len e1; simp at this; omega) w
            obtain ⟨y, hy, hy'⟩ := run_part (P := P) hu hsz hk1 (cs := ys) (off := n) (by have := eqB_len e1; simp at this; omega) w
            have he := hg f.type l hgk _ _ b1 x y w e1 (by
              rcases hx' with ⟨ha, rfl⟩ | ⟨ha, hx'⟩
              · rcases hy' with ⟨_, rfl⟩ | ⟨hb, _⟩
                · exact .inl ⟨by rw [hu]; simp [ha], rfl, rfl⟩
                · rw [ha] at hb; cases hb
              · rcases hy' with ⟨hb, _⟩ | ⟨_, hy'⟩
                · rw [ha] at hb; cases hb
                · exact .inr ⟨by rw [hu]; simp [ha], hx', hy'⟩)
            simp only [Op.eqFields, ho, Sem.run_ite, if_pos hn, Sem.run_bind, hx, hy, Result.andThen_ok, he]
            cases b1
            · simp
            · simpa using hrun
        · cases h
      · cases h
    · cases h

theorem run_eqT : ∀ (d : Nat) (t : TypeId) (l : List Bool), eqT P d t = some l → ∀ (e : Nat) (xs ys : List Value) (b : Bool) (x y : Value) (w : World), d ≤ e → eqB l xs ys = some b →
      (((P.underlying t).map aggD = some true ∧ x = .agg xs.toArray ∧ y = .agg ys.toArray) ∨ ((P.underlying t).map aggD = some false ∧ xs = [x] ∧ ys = [y])) → (Op.equalIn e t x y).run P w = .ok b w
  | 0, t, k, h => by simp [eqT] at h
  | d + 1, t, l, h => by
    intro e xs ys b x y w hde hb hv
    obtain ⟨e, rfl⟩ : ∃ e', e = e' + 1 := ⟨e - 1, by omega⟩
    simp only [eqT] at h
    split at h
    · rename_i kd hu
      cases h
      rw [hu] at hv
      rcases hv with ⟨h1, _⟩ | ⟨_, rfl, rfl⟩
      · simp [aggD] at h1
      · rcases eqB_cons hb with ⟨_, k, a, c, b', r, t, e1, e2, h', rfl⟩ | ⟨h0, _⟩
        · cases e1; cases e2
          rw [(eqB_nil h').2.2, Bool.and_true]; exact run_equalIn_int w e _ k kd a c hu
        · cases h0
    · rename_i hu
      cases h
      rw [hu] at hv
      rcases hv with ⟨h1, _⟩ | ⟨_, rfl, rfl⟩
      · simp [aggD] at h1
      · rcases eqB_cons hb with ⟨h0, _⟩ | ⟨_, a, c, b', r, t, e1, e2, h', rfl⟩
        · cases h0
        · cases e1; cases e2
          rw [(eqB_nil h').2.2, Bool.and_true]; exact run_equalIn_bool' w e _ a c hu
    · rename_i fs hu
      split at h
      · cases h
      · rename_i hs
        rw [hu] at hv
        rcases hv with ⟨_, rfl, rfl⟩ | ⟨h1, _⟩
        · have hf : P.fieldsOf t = fs := by simp [Program.fieldsOf, hu]
          rw [run_equalIn_agg w e t _ _ (by rw [hf]; exact hu) (by simpa using hs), hf]
          exact run_eqFs (P := P) (fun t l hk xs ys b x y w hb hv => run_eqT d t l hk e xs ys b x y w (by omega) hb hv) fs.toList 0 l h xs ys b w (by simpa using hb)
        · simp [aggD] at h1
    · cases h
end

section
variable {w : World} {own : Nat → Prop} {ι : Iota} {H : List (Nat × Ob)} {nx : Nat}
theorem ikB_eq {a b : IntKind} (h : ikB a b = true) : a = b := by
  cases a <;> cases b <;> first | rfl | (simp [ikB, IntKind.ctorIdx] at h)
theorem eqCells_nil {xs ys : List SV} {p : Prop} (h : eqCells [] xs ys = some p) : xs = [] ∧ ys = [] ∧ p = True := by
  cases xs <;> cases ys <;> simp only [eqCells] at h <;> first | (cases h; done) | skip
  cases h; exact ⟨rfl, rfl, rfl⟩
theorem eqCells_cons {q : Bool} {ks : List Bool} {xs ys : List SV} {p : Prop} (h : eqCells (q :: ks) xs ys = some p) :
    (q = false ∧ ∃ k a c p' r t, xs = .c (.int k a) :: r ∧ ys = .c (.int k c) :: t ∧ eqCells ks r t = some p' ∧ p = (a = c ∧ p')) ∨ (q = true ∧ ∃ a c p' r t, xs = .c (.bool a) :: r ∧ ys = .c (.bool c) :: t ∧ eqCells ks r t = some p' ∧ p = (a = c ∧ p')) := by
  unfold eqCells at h
  split at h
  · rename_i _ _ e; cases e
  · rename_i k a r k' c t e
    cases e
    split at h
    · rename_i p' hk hq
      cases h
      have := ikB_eq hk
      subst this
      exact .inl ⟨rfl, _, _, _, p', _, _, rfl, rfl, hq, rfl⟩
    · cases h
  · rename_i a r c t e
    cases e
    split at h
    · rename_i p' hq
      cases h
      exact .inr ⟨rfl, _, _, p', _, _, rfl, rfl, hq, rfl⟩
    · cases h
  · cases h
theorem eqCells_b : ∀ {ks : List Bool} {xs ys : List SV} {p : Prop} {us vs : List Value}, eqCells ks xs ys = some p → RepList w own ι H nx xs us → RepList w own ι H nx ys vs → ∃ b, eqB ks us vs = some b ∧ (b = true ↔ p)
  | [], xs, ys, p, us, vs, h, hu, hv => by
    obtain ⟨rfl, rfl, rfl⟩ := eqCells_nil h
    rw [replist_nil hu, replist_nil hv]; exact ⟨true, rfl, by simp⟩
  | q :: ks, xs, ys, p, us, vs, h, hu, hv => by
    rcases eqCells_cons h with ⟨rfl, k, a, c, p', r, t, rfl, rfl, h', rfl⟩ | ⟨rfl, a, c, p', r, t, rfl, rfl, h', rfl⟩
    · obtain ⟨u, ur, rfl, h1, h2⟩ := replist_cons hu
      obtain ⟨v, vr, rfl, h3, h4⟩ := replist_cons hv
      rw [rep_int h1, rep_int h3]
      obtain ⟨b', e, hb⟩ := eqCells_b h' h2 h4
      exact ⟨(a == c) && b', by simp only [eqB, if_true, e]; rfl, by simp [hb]⟩
    · obtain ⟨u, ur, rfl, h1, h2⟩ := replist_cons hu
      obtain ⟨v, vr, rfl, h3, h4⟩ := replist_cons hv
      rw [rep_bool h1, rep_bool h3]
      obtain ⟨b', e, hb⟩ := eqCells_b h' h2 h4
      exact ⟨(a == c) && b', by simp only [eqB, e]; rfl, by simp [hb]⟩
end
end Go.Proofs.Ytbglmocgijlomaa

/- The abstract walk is sound: loads, views, calls. No program in sight. -/
namespace Go.Proofs.Ytbglmocgijlomaa
open Go.RowKit

section
variable {P : Program} {F : Fr} {w0 w : World} {ι : Iota} {H : List (Nat × Ob)} {nx : Nat}

theorem cell_of_cells {b : Nat} {cur : Array Value} {e : TypeId} {fr : Nat × Nat} (h : w.heap[b]? = some (.cells cur e fr)) (o : Nat) : w.cell? ⟨b, o, none⟩ = cur[o]? := by
  simp [World.cell?, h]
theorem lt_of_heap {b : Nat} {o : Obj} (h : w.heap[b]? = some o) : b < w.heap.size := by
  rcases Nat.lt_or_ge b w.heap.size with h' | h'
  · exact h'
  · rw [Array.getElem?_eq_none h'] at h; cases h

/-- The cells of a box. -/
theorem box_cells (hm : Mem F w0 ι H nx w) {id j : Nat} {cs : List SV} {v : Value} (hr : Rep w (owned F ι H) ι H nx (.bp id j) v) (hh : look H id = some (.box cs)) :
    ∃ b cur e, v = .pointer (some ⟨b, j, none⟩) ∧ w.heap[b]? = some (.cells cur e (0, 0)) ∧ RepList w (owned F ι H) ι H nx cs cur.toList ∧ (∀ s ∈ cs, s.cell = true) ∧ (∃ c, ι id = some (b, c)) ∧ 0 ≤ b := by
  cases hr with
  | bp _ _ _ hx h1 h =>
    obtain ⟨b, c, hι, rfl⟩ := h cs hh
    obtain ⟨_, b', c', cur, e, hι', hb, hcur, hsz, hcells⟩ := hm.heap id _ hh
    rw [hι] at hι'
    cases hι'
    refine ⟨b, cur, e, rfl, hcur, ⟨by simp [hsz], fun i s u hs hu => (hcells i s u hs (by simpa using hu)).2⟩, fun s hs => ?_, ⟨c, hι⟩, hb⟩
    obtain ⟨i, hi⟩ := List.getElem?_of_mem hs
    have hlt : i < cur.size := by rw [hsz]; exact (List.getElem?_eq_some_iff.1 hi).1
    exact (hcells i s _ hi (Array.getElem?_eq_getElem hlt)).1

/-- The cells of a row's element. -/
theorem row_cells (hm : Mem F w0 ι H nx w) {id e k i : Nat} {es : List (List CV)} {r : List CV} (hh : look H id = some (.row e k es)) (hi : es[i]? = some r) :
    ∃ b c xs, ι id = some (b, c) ∧ w.ownsRow 0 e k (.slice (some ⟨b, 0, none⟩) es.length c) es.length xs ∧ r.length = k ∧ (∀ j, j < k → w.cell? ⟨b, i * k + j, none⟩ = xs[i * k + j]?) ∧ i * k + k ≤ xs.length ∧
      (∀ (j : Nat) (c : CV) (v : Value), r[j]? = some c → xs[i * k + j]? = some v → RepC w (owned F ι H) c v) := by
  obtain ⟨_, xs, ho, hk, hr⟩ := hm.heap id _ hh
  have hlt := (List.getElem?_eq_some_iff.1 hi).1
  have hrk : r.length = k := hk r (List.mem_of_getElem? hi)
  cases hι : ι id with
  | none =>
    rw [hι] at ho
    rcases ho.2 with ⟨_, hn⟩ | ⟨g, cap, cur, hv, _⟩
    · omega
    · simp [ownVal] at hv
  | some p =>
    obtain ⟨b, c⟩ := p
    rw [hι] at ho
    have hle : i * k + k ≤ es.length * k := by rw [← Nat.succ_mul]; exact Nat.mul_le_mul_right k hlt
    refine ⟨b, c, xs, rfl, ho, hrk, fun j hj => World.ownsRow.cellAt ho _ (by omega), by rw [ho.1]; exact hle, fun j c v hc hv => ?_⟩
    have hj : j < k := by rw [← hrk]; exact (List.getElem?_eq_some_iff.1 hc).1
    exact hr _ c v (by rw [flatten_get hk hi hj]; exact hc) hv

theorem take_get {α : Type} (l : List α) (n i : Nat) (x : α) (h : (l.take n)[i]? = some x) : l[i]? = some x ∧ i < n := by
  rw [List.getElem?_take] at h
  split at h
  · exact ⟨h, by assumption⟩
  · cases h

theorem load_ok {t : TypeId} {u : TypeDesc} {k : Nat} {x : Operand} {a : Act} {o : Oper} {xs : List SV} {v : SV} (hm : Mem F w0 ι H nx w) (ho : o.op = .load t x) (hu : P.underlying t = some u) (hk : sizeOfT P t = some k) (hk1 : aggD u = false → k = 1)
    (hx : RepList w (owned F ι H) ι H nx xs [a.eval x]) (hp : pop P (.load k (aggD u)) H xs (· = v)) :
    Gives P o a w (fun u' w' => Below w.heap.size w w' ∧ Rep w' (owned F ι H) ι H nx v u') := by
  have key : ∀ (b off : Nat) (us : List Value) (cs : List SV), a.eval x = .pointer (some ⟨b, off, none⟩) → us.length = k → (∀ (j : Nat) (v : Value), us[j]? = some v → w.cell? ⟨b, off + j, none⟩ = some v) → RepList w (owned F ι H) ι H nx cs us → (∀ s ∈ cs, s.cell = true) → fromCells (aggD u) cs (· = v) →
      Gives P o a w (fun u' w' => Below w.heap.size w w' ∧ Rep w' (owned F ι H) ι H nx v u') := by
    intro b off us cs he hl hc hr hcell hf
    obtain ⟨y, hrun, hy⟩ := run_loadD (P := P) (w := w) hu hk hk1 hl hc
    refine gives_value (u := y) (w' := w) ?_ ⟨Below.refl _ _, fromCells_rep hf hr hcell hy⟩
    simp [execOp, ho, Instr.loadAt, Instr.sureAddr, he, hrun]
  unfold pop at hp
  dsimp only at hp
  split at hp
  · rename_i id j
    obtain ⟨y, e, hy⟩ := replist_one hx
    simp at e
    split at hp
    · rename_i cs hh
      obtain ⟨hle, hf⟩ := chk_iff.1 hp
      rw [Nat.ble_eq] at hle
      obtain ⟨b, cur, e', hv, hcur, hrl, hcell, _⟩ := box_cells hm hy hh
      have hcl : cs.length = cur.size := by simpa using hrl.1
      refine key b j _ _ (e.trans hv) ?_ ?_ (replist_sub hrl j k) (fun s hs => hcell s (List.mem_of_mem_drop (List.mem_of_mem_take hs))) hf
      · simp; omega
      · intro i v hv
        obtain ⟨h1, _⟩ := take_get _ _ _ _ hv
        rw [List.getElem?_drop] at h1
        rw [cell_of_cells hcur]; simpa using h1
    · exact hp.elim
  · rename_i cs
    obtain ⟨y, e, hy⟩ := replist_one hx
    simp at e
    obtain ⟨hle, hf⟩ := chk_iff.1 hp
    rw [Nat.ble_eq] at hle
    cases hy with
    | rp _ b off us hl hb ho' hcell hr =>
      refine key b off (us.take k) _ e ?_ (fun j v hv => hcell j v (take_get _ _ _ _ hv).1) (replist_map_c ?_ fun i c v hc hv => hr i c v (take_get _ _ _ _ hc).1 (take_get _ _ _ _ hv).1) (cells_map_c _) hf
      · simp; omega
      · simp [hl]
  · rename_i id k' i j
    obtain ⟨y, e, hy⟩ := replist_one hx
    simp at e
    split at hp
    · rename_i e' k'' es hh
      obtain ⟨hbq, hi, hf⟩ := chk_iff.1 hp
      simp only [Bool.and_eq_true, Nat.beq_eq, Nat.ble_eq] at hbq
      obtain ⟨rfl, hle⟩ := hbq
      have hi' := List.getElem?_eq_getElem hi
      have hf := hf _ hi'
      generalize es[i] = r at hf hi'
      obtain ⟨b, c, us, hι, hown, hrk, hcell, hxs, hrep⟩ := row_cells hm hh hi'
      cases hy with
      | ep _ _ _ _ _ hx1 h1 h =>
        obtain ⟨b', c', hι', hv⟩ := h _ _ _ hh
        rw [hι] at hι'
        cases hι'
        refine key b (i * k' + j) ((us.drop (i * k' + j)).take k) _ (e.trans hv) ?_ ?_ (replist_map_c ?_ fun n c v hc hv => ?_) (cells_map_c _) hf
        · simp; omega
        · intro n v hn
          obtain ⟨h1, h2⟩ := take_get _ _ _ _ hn
          rw [List.getElem?_drop] at h1
          rw [Nat.add_assoc, hcell (j + n) (by omega), ← Nat.add_assoc]; exact h1
        · simp; omega
        · obtain ⟨h1, _⟩ := take_get _ _ _ _ hc
          obtain ⟨h2, _⟩ := take_get _ _ _ _ hv
          rw [List.getElem?_drop] at h1 h2
          exact hrep (j + n) c v h1 (by rw [← Nat.add_assoc]; exact h2)
    · exact hp.elim
  · exact hp.elim
end
end Go.Proofs.Ytbglmocgijlomaa

/- The abstract walk is sound: views and calls. No program in sight. -/
namespace Go.Proofs.Ytbglmocgijlomaa
open Go.RowKit

section
variable {P : Program} {F : Fr} {F' : Nat → Prop} {w0 w : World} {ι : Iota} {H H' : List (Nat × Ob)} {nx : Nat}

/-- What the call owns lies apart from the blocks to be spared. -/
def Avoid (F' : Nat → Prop) (ι : Iota) (H : List (Nat × Ob)) : Prop := ∀ id o b c, look H id = some o → o.live = true → ι id = some (b, c) → ¬ F' b
/-- The rows that a view opens are not among the blocks to be spared. -/
def refOk (F' : Nat → Prop) (ι : Iota) (H : List (Nat × Ob)) : SV → Prop
  | .osl id => ∀ o b c, look H id = some o → o.live = true → ι id = some (b, c) → ¬ F' b
  | .bp _ _ => False
  | _ => True

theorem row_view (hm : Mem F w0 ι H nx w) (hF : ∀ b, F' b → owned F ι H b) {id e k : Nat} {es : List (List CV)} (hh : look H id = some (.row e k es)) (hn : ∀ b c, ι id = some (b, c) → ¬ F' b) :
    RepC w F' (.sl k es) (ownVal (ι id) es.length) := by
  obtain ⟨_, xs, ho, hk, hr⟩ := hm.heap id _ hh
  have hkeep : Keeps w w (owned F ι H) F' := ⟨Nat.le_refl _, fun _ _ _ _ _ h => h, fun b _ h => hF b h⟩
  cases hι : ι id with
  | none =>
    rw [hι] at ho
    rcases ho.2 with ⟨_, h0⟩ | ⟨g, cap, cur, hv, _⟩
    · have : es = [] := List.eq_nil_of_length_eq_zero h0
      subst this
      exact .sl k [] none 0 [] (by simp) (by simp) (by omega) (by simp) (by simp) (by simp)
    · simp [ownVal] at hv
  | some p =>
    obtain ⟨b, c⟩ := p
    rw [hι] at ho
    have ho' : w.ownsRow 0 e k (.slice (some ⟨b, 0, none⟩) es.length c) es.length xs := ho
    have hcp : es.length ≤ c ∧ c ≤ 9223372036854775807 ∧ b < w.heap.size := by
      rcases ho'.2 with ⟨h', _⟩ | ⟨g, cap, cur, h', hb, hg, hnc, hcm, hcs, htake⟩
      · simp at h'
      · simp only [Value.slice.injEq, Option.some.injEq, Addr.mk.injEq, and_true, true_and] at h'
        obtain ⟨rfl, rfl⟩ := h'
        exact ⟨hnc, hcm, lt_of_heap hg⟩
    refine .sl k es (some ⟨b, 0, none⟩) c xs hk hcp.1 hcp.2.1 ho'.1 (fun _ => ⟨b, 0, rfl, hcp.2.2, hn b c hι, fun j u hu => ?_⟩) fun i cc v hc hv => (hr i cc v hc hv).keep hkeep
    have hj : j < es.length * k := by rw [← ho'.1]; exact (List.getElem?_eq_some_iff.1 hu).1
    rw [Nat.zero_add, World.ownsRow.cellAt ho' j hj]; exact hu

theorem closed1_rep (hm : Mem F w0 ι H nx w) (hF : ∀ b, F' b → owned F ι H b) (hsub : ∀ i o, look H' i = some o → o.live = true → look H i = some o) {s : SV} {c : CV} {u : Value} (hr : Avoid F' ι H' ∨ refOk F' ι H' s) (hc : closed1 H' s = some c) (h : Rep w (owned F ι H) ι H nx s u) : RepC w F' c u := by
  have hkeep : Keeps w w (owned F ι H) F' := ⟨Nat.le_refl _, fun _ _ _ _ _ h => h, fun b _ h => hF b h⟩
  unfold closed1 at hc
  split at hc
  · cases hc
    cases h with | c _ _ h => exact h.keep hkeep
  · rename_i id
    split at hc
    · rename_i e k es hh
      cases hc
      cases h with
      | osl _ _ hx h1 h =>
        have hh' := hsub _ _ hh rfl
        rw [h _ _ _ hh']
        refine row_view hm hF hh' fun b c hι => ?_
        rcases hr with hr | hr
        · exact hr _ _ b c hh rfl hι
        · exact hr _ b c hh rfl hι
    · cases hc
  · cases hc
theorem closedL_rep (hm : Mem F w0 ι H nx w) (hF : ∀ b, F' b → owned F ι H b) (hsub : ∀ i o, look H' i = some o → o.live = true → look H i = some o) : ∀ {ss : List SV} {cs : List CV} {us : List Value}, (Avoid F' ι H' ∨ ∀ s ∈ ss, refOk F' ι H' s) → closedL H' ss = some cs → RepList w (owned F ι H) ι H nx ss us →
    us.length = cs.length ∧ ∀ (i : Nat) (c : CV) (v : Value), cs[i]? = some c → us[i]? = some v → RepC w F' c v
  | [], cs, us, _, hc, h => by
    simp [closedL] at hc
    subst hc
    rw [replist_nil h]
    simp
  | s :: r, cs, us, hr, hc, h => by
    simp only [closedL] at hc
    split at hc
    · rename_i c l h1 h2
      cases hc
      obtain ⟨u, ur, rfl, hu, hur⟩ := replist_cons h
      obtain ⟨hl, ih⟩ := closedL_rep hm hF hsub (hr.imp id fun h s hs => h s (by simp [hs])) h2 hur
      refine ⟨by simp [hl], fun i c' v hc' hv => ?_⟩
      cases i with
      | zero =>
        simp at hc' hv
        subst hc'; subst hv
        exact closed1_rep hm hF hsub (hr.imp id fun h => h s (by simp)) h1 hu
      | succ i => exact ih i c' v (by simpa using hc') (by simpa using hv)
    · cases hc

theorem view0_rep (hm : Mem F w0 ι H nx w) (hF : ∀ b, F' b → owned F ι H b) (hsub : ∀ i o, look H' i = some o → o.live = true → look H i = some o) {s : SV} {u : Value} (hr : Avoid F' ι H' ∨ refOk F' ι H' s) (h : Rep w (owned F ι H) ι H nx s u) : Rep w F' (fun _ => none) [] 0 (view0 H' s) u := by
  have hkeep : Keeps w w (owned F ι H) F' := ⟨Nat.le_refl _, fun _ _ _ _ _ h => h, fun b _ h => hF b h⟩
  unfold view0
  split
  · cases h with | c _ _ h => exact .c _ _ (h.keep hkeep)
  · cases h with
    | rp _ b off xs hl hb ho hx h => exact .rp _ b off xs hl hb (fun h => ho (hF b h)) hx fun i c v hc hv => (h i c v hc hv).keep hkeep
  · rename_i id
    split
    · rename_i e k es hh
      exact .c _ _ (closed1_rep hm hF hsub hr (by simp [closed1, hh]) h)
    · exact .none_ _
  · rename_i id j
    split
    · rename_i cs hh
      split
      · rename_i l hl
        rcases hr with hr | hr
        · obtain ⟨b, cur, e, rfl, hcur, hrl, hcell, ⟨c, hι⟩, _⟩ := box_cells hm h (hsub _ _ hh rfl)
          have hrl' : RepList w (owned F ι H) ι H nx (cs.drop j) (cur.toList.drop j) := by
            refine ⟨by have := hrl.1; simp at this ⊢; omega, fun i s v hs hv => ?_⟩
            rw [List.getElem?_drop] at hs hv
            exact hrl.2 _ s v hs hv
          obtain ⟨h1, h2⟩ := closedL_rep hm hF hsub (.inl hr) hl hrl'
          refine .rp l b j _ h1 (lt_of_heap hcur) (hr _ _ b c hh rfl hι) (fun i u hu => ?_) h2
          rw [List.getElem?_drop] at hu
          rw [cell_of_cells hcur]; simpa using hu
        · exact hr.elim
      · exact .none_ _
    · exact .none_ _
  · rename_i f
    cases h with
    | fn _ _ vs hl h => exact .fn f [] vs hl fun i s v hs _ => by simp at hs
  · exact .none_ _

theorem viewL_rep (hm : Mem F w0 ι H nx w) (hF : ∀ b, F' b → owned F ι H b) (hsub : ∀ i o, look H' i = some o → o.live = true → look H i = some o) : ∀ {ss : List SV} {us : List Value}, (Avoid F' ι H' ∨ ∀ s ∈ ss, refOk F' ι H' s) → RepList w (owned F ι H) ι H nx ss us → RepList w F' (fun _ => none) [] 0 (viewL H' ss) us
  | [], us, _, h => by rw [replist_nil h]; exact replist_mk0
  | s :: r, us, hr, h => by
    obtain ⟨u, ur, rfl, hu, hur⟩ := replist_cons h
    exact replist_mk (view0_rep hm hF hsub (hr.imp id fun h => h s (by simp)) hu) (viewL_rep hm hF hsub (hr.imp id fun h s hs => h s (by simp [hs])) hur)
/-- Where the rows of an argument lie. -/
def refOkV (F' : Nat → Prop) (ι : Iota) (H : List (Nat × Ob)) : SV → Prop
  | .agg cs => ∀ s ∈ cs, refOk F' ι H s
  | .fn _ cs => ∀ s ∈ cs, refOk F' ι H s
  | s => refOk F' ι H s
theorem view_rep (hm : Mem F w0 ι H nx w) (hF : ∀ b, F' b → owned F ι H b) (hsub : ∀ i o, look H' i = some o → o.live = true → look H i = some o) {s : SV} {u : Value} (hr : Avoid F' ι H' ∨ refOkV F' ι H' s) (h : Rep w (owned F ι H) ι H nx s u) : Rep w F' (fun _ => none) [] 0 (view H' s) u := by
  unfold view
  split
  · rename_i cs
    split
    · rename_i hall
      cases h with
      | agg _ vs hl hc h =>
        obtain ⟨h1, h2⟩ := viewL_rep hm hF hsub (hr.imp id id) ⟨hl, h⟩
        exact .agg _ vs h1 (fun s hs => List.all_eq_true.1 hall s hs) h2
    · exact .none_ _
  · rename_i f caps
    split
    · cases h with
      | fn _ _ vs hl h =>
        obtain ⟨h1, h2⟩ := viewL_rep hm hF hsub (hr.imp id id) ⟨hl, h⟩
        exact .fn f _ vs h1 h2
    · exact .none_ _
  · rename_i h1 h2
    refine view0_rep hm hF hsub (hr.imp id fun h => ?_) h
    unfold refOkV at h
    split at h
    · exact absurd rfl (h1 _)
    · exact absurd rfl (h2 _ _)
    · exact h
theorem views_rep (hm : Mem F w0 ι H nx w) (hF : ∀ b, F' b → owned F ι H b) (hsub : ∀ i o, look H' i = some o → o.live = true → look H i = some o) : ∀ {ss : List SV} {us : List Value}, (Avoid F' ι H' ∨ ∀ s ∈ ss, refOkV F' ι H' s) → RepList w (owned F ι H) ι H nx ss us → RepList w F' (fun _ => none) [] 0 (views H' ss) us
  | [], us, _, h => by rw [replist_nil h]; exact replist_mk0
  | s :: r, us, hr, h => by
    obtain ⟨u, ur, rfl, hu, hur⟩ := replist_cons h
    exact replist_mk (view_rep hm hF hsub (hr.imp id fun h => h s (by simp)) hu) (views_rep hm hF hsub (hr.imp id fun h s hs => h s (by simp [hs])) hur)
end

section
variable {w : World} {own : Nat → Prop} {ι : Iota} {H : List (Nat × Ob)} {nx : Nat}
theorem leC_rep {x y : CV} {u : Value} (h : leC x y) (hr : RepC w own x u) : RepC w own y u := by
  unfold leC at h
  split at h
  · subst h
    cases hr
    exact .sl _ [] none 0 [] (by simp) (by simp) (by omega) (by simp) (by simp) (by simp)
  · subst h; exact hr
theorem le0_rep {x y : SV} {u : Value} (h : le0 x y) (hr : Rep w own ι H nx x u) : Rep w own ι H nx y u := by
  unfold le0 at h
  split at h
  · cases hr with | c _ _ hr => exact .c _ _ (leC_rep h hr)
  · subst h; exact hr
theorem le0_cell {x y : SV} (h : le0 x y) : y.cell = x.cell := by
  unfold le0 at h
  split at h
  · rfl
  · subst h; rfl
theorem leL_rep : ∀ {xs ys : List SV} {us : List Value}, leL xs ys → RepList w own ι H nx xs us → RepList w own ι H nx ys us
  | [], [], us, _, h => h
  | [], y :: t, us, h, _ => h.elim
  | x :: r, [], us, h, _ => h.elim
  | x :: r, y :: t, us, h, hr => by
    obtain ⟨u, ur, rfl, hu, hur⟩ := replist_cons hr
    exact replist_mk (le0_rep h.1 hu) (leL_rep h.2 hur)
theorem leL_cell : ∀ {xs ys : List SV}, leL xs ys → (∀ s ∈ xs, s.cell = true) → ∀ s ∈ ys, s.cell = true
  | [], [], _, _ => by simp
  | [], y :: t, h, _ => h.elim
  | x :: r, [], h, _ => h.elim
  | x :: r, y :: t, h, hc => by
    intro s hs
    rcases List.mem_cons.1 hs with rfl | hs
    · rw [le0_cell h.1]; exact hc x (by simp)
    · exact leL_cell h.2 (fun s hs => hc s (by simp [hs])) s hs
theorem leV_rep {x y : SV} {u : Value} (h : leV x y) (hr : Rep w own ι H nx x u) : Rep w own ι H nx y u := by
  unfold leV at h
  split at h
  · exact .none_ _
  · cases hr with
    | agg _ vs hl hc hr =>
      obtain ⟨h1, h2⟩ := leL_rep h ⟨hl, hr⟩
      exact .agg _ vs h1 (leL_cell h hc) h2
  · cases hr with
    | tup _ vs hl hr =>
      obtain ⟨h1, h2⟩ := leL_rep h ⟨hl, hr⟩
      exact .tup _ vs h1 h2
  · exact le0_rep h hr
theorem leVs_rep : ∀ {xs ys : List SV} {us : List Value}, leVs xs ys → RepList w own ι H nx xs us → RepList w own ι H nx ys us
  | [], [], us, _, h => h
  | [], y :: t, us, h, _ => h.elim
  | x :: r, [], us, h, _ => h.elim
  | x :: r, y :: t, us, h, hr => by
    obtain ⟨u, ur, rfl, hu, hur⟩ := replist_cons hr
    exact replist_mk (leV_rep h.1 hu) (leVs_rep h.2 hur)

theorem plain1_rep {w' : World} {own' : Nat → Prop} {ι' : Iota} {H' : List (Nat × Ob)} {nx' : Nat} {s : SV} {u : Value} (hp : plain1 s = true) (h : Rep w own ι H nx s u) : Rep w' own' ι' H' nx' s u := by
  unfold plain1 at hp
  split at hp
  · rw [rep_int h]; exact rep_mk_int _ _
  · rw [rep_bool h]; exact rep_mk_bool _
  · cases hp
theorem plainV_rep {w' : World} {own' : Nat → Prop} {ι' : Iota} {H' : List (Nat × Ob)} {nx' : Nat} {s : SV} {u : Value} (hp : plainV s = true) (h : Rep w own ι H nx s u) : Rep w' own' ι' H' nx' s u := by
  unfold plainV at hp
  split at hp
  · cases h with
    | agg _ vs hl hc h => exact .agg _ vs hl hc fun i s v hs hv => plain1_rep (List.all_eq_true.1 hp s (List.mem_of_getElem? hs)) (h i s v hs hv)
  · cases h with
    | tup _ vs hl h => exact .tup _ vs hl fun i s v hs hv => plain1_rep (List.all_eq_true.1 hp s (List.mem_of_getElem? hs)) (h i s v hs hv)
  · exact plain1_rep hp h
theorem free1_ok {F' : Nat → Prop} {s : SV} (h : free1 s = true) : refOk F' ι H s := by
  unfold free1 at h
  split at h <;> first | trivial | (cases h)
theorem freeL_ok {F' : Nat → Prop} : ∀ {ss : List SV}, freeL ss = true → ∀ s ∈ ss, refOkV F' ι H s
  | [], _ => by simp
  | x :: r, h => by
    simp only [freeL, Bool.and_eq_true] at h
    obtain ⟨h1, h2⟩ := h
    intro s hs
    rcases List.mem_cons.1 hs with rfl | hs
    · unfold refOkV
      split
      · intro s hs; exact free1_ok (List.all_eq_true.1 h1 s hs)
      · intro s hs; exact free1_ok (List.all_eq_true.1 h1 s hs)
      · rename_i n1 n2
        split at h1
        · exact absurd rfl (n1 _)
        · exact absurd rfl (n2 _ _)
        · exact free1_ok h1
    · exact freeL_ok h2 s hs
theorem owned_nil {F : Nat → Prop} {ι : Iota} {b : Nat} : owned F ι [] b ↔ F b := by
  unfold owned
  exact ⟨fun h => h.elim id fun ⟨_, _, _, h, _⟩ => by simp [look] at h, .inl⟩
end

section
variable {P : Program} {F : Fr} {w0 w : World} {ι : Iota} {H : List (Nat × Ob)} {nx : Nat}
theorem owned_lt (hm : Mem F w0 ι H nx w) {b : Nat} (h : owned F ι H b) : b < w.heap.size := by
  rcases h with h | ⟨id, o, c, hh, hl, hι⟩
  · exact Nat.lt_of_lt_of_le (hm.fb b h).1 hm.below.size
  · obtain ⟨_, ho⟩ := hm.heap id o hh
    cases o with
    | box cs =>
      obtain ⟨b', c', cur, e, h1, _, h2, _⟩ := ho
      rw [hι] at h1; cases h1
      exact lt_of_heap h2
    | row e k es =>
      obtain ⟨xs, h1, _⟩ := ho
      rw [hι] at h1
      rcases h1.2 with ⟨h', _⟩ | ⟨g, cap, cur, h', hb, hg, _⟩
      · simp [ownVal] at h'
      · simp only [ownVal, Value.slice.injEq, Option.some.injEq, Addr.mk.injEq, and_true, true_and] at h'
        obtain ⟨rfl, _⟩ := h'
        exact lt_of_heap hg
    | map kn ag kv =>
      obtain ⟨b', c', _, _, h1, _, h2, _⟩ := ho
      rw [hι] at h1; cases h1
      exact lt_of_heap h2.1
    | dead => simp [Ob.live] at hl

theorem run_callFunc {f : Nat} (h : callable P f = true) (args : Array Value) (w : World) : (callFunc f args).run P w = .ok (.enter f args) w := by
  unfold callable at h
  split at h
  · rename_i fn hf
    simp only [Bool.and_eq_true, Bool.not_eq_true'] at h
    have hb : ¬ fn.body = none := by cases hh : fn.body <;> simp_all
    have h2 : ¬ fn.name = "runtime.NumGoroutine" := by simpa using h.2
    unfold callFunc
    simp [run_program, hf, h2, hb]
  · cases h

/-- A call that is met by a contract and gives nothing away. -/
theorem callV_ok {f : Nat} {xs : List SV} {us : List Value} {v : SV} (hm : Mem F w0 ι H nx w) (hx : RepList w (owned F ι H) ι H nx xs us) (hp : callV P f H xs fun r obs => obs = [] ∧ norm r (· = v)) :
    Calls P f us.toArray w fun e w' => ∃ u, e = .returned u ∧ DrLe w w' ∧ Below w.heap.size w w' ∧ Rep w' (owned F ι H) ι H nx v u := by
  obtain ⟨S, hS, x, hpre, hl, hf, hobs, hn⟩ := hp
  have main : ∀ F' : Nat → Prop, (∀ b, F' b → owned F ι H b) → (Avoid F' ι H ∨ ∀ s ∈ xs, refOkV F' ι H s) → Calls P f us.toArray w (CallPost F' w (S.res x) (S.obs x)) := fun F' h1 h2 =>
    hS x F' w us hpre (fun b hb => owned_lt hm (h1 b hb)) (leVs_rep hl (views_rep hm h1 (fun _ _ h _ => h) h2 hx))
  rcases hf with hf | hf
  · refine (main (owned F ι H) (fun _ h => h) (.inr (freeL_ok hf))).mono ?_
    rintro e w' ⟨u, ι', rfl, hb, hd, hr, _⟩
    rw [hobs] at hr
    refine ⟨u, rfl, hd, hb, norm_rep hn (hr.keep ⟨Nat.le_refl _, fun _ _ _ _ _ h => h, fun b _ h => owned_nil.2 h⟩ ⟨Nat.zero_le _, fun id _ h => absurd h (Nat.not_lt_zero _), fun id _ _ _ h => absurd h (Nat.not_lt_zero _), fun id _ _ _ h => absurd h (Nat.not_lt_zero _)⟩)⟩
  · refine (main (fun _ => False) (fun _ h => h.elim) (.inl fun _ _ _ _ _ _ _ h => h)).mono ?_
    rintro e w' ⟨u, ι', rfl, hb, hd, hr, _⟩
    exact ⟨u, rfl, hd, hb, norm_rep hn (plainV_rep hf hr)⟩
end
end Go.Proofs.Ytbglmocgijlomaa

/- The abstract walk is sound: every quiet operation. No program in sight. -/
namespace Go.Proofs.Ytbglmocgijlomaa
open Go.RowKit

section
variable {P : Program} {F : Fr} {w0 w : World} {ι : Iota} {H : List (Nat × Ob)} {nx : Nat}

theorem inR_wrap {k : IntKind} {n : Int} (h : inR k n) : k.wrap n = n := by
  unfold inR at h
  split at h
  · exact IntWalk.i64_in n h
  · exact h

theorem binV_run {op : BinOp} {kd k2 : IntKind} {wr : Bool} {a b : Int} {v : SV} {t : TypeId} (hc : isCmp op = false) (hk : (isShift op || ikB k2 kd) = true) (h : binV op kd wr a b (· = v)) (w : World) :
    ∃ n, v = .c (.int kd n) ∧ (binOp op t (.int kd a) (.int k2 b)).run P w = .ok (.int kd n) w := by
  unfold binV at h
  cases op <;> dsimp only at h <;> first | (cases hc; done) | skip
  case shl =>
    obtain ⟨h0, rfl⟩ := h
    refine ⟨_, rfl, ?_⟩
    have : ¬ b < 0 := by omega
    simp [binOp, Op.shift, this, Nat.min_def]
  case shr =>
    obtain ⟨h0, rfl⟩ := h
    refine ⟨_, rfl, ?_⟩
    have : ¬ b < 0 := by omega
    simp [binOp, Op.shift, this, Nat.min_def]
  all_goals
    have hk2 : k2 = kd := ikB_eq (by simpa [isShift] using hk)
    subst hk2
  case add =>
    cases wr <;> dsimp only at h
    · obtain ⟨h1, rfl⟩ := h
      exact ⟨_, rfl, by simp [binOp, Op.intArith, inR_wrap h1]⟩
    · subst h
      exact ⟨_, rfl, by simp [binOp, Op.intArith]⟩
  case sub =>
    cases wr <;> dsimp only at h
    · obtain ⟨h1, rfl⟩ := h
      exact ⟨_, rfl, by simp [binOp, Op.intArith, inR_wrap h1]⟩
    · subst h
      exact ⟨_, rfl, by simp [binOp, Op.intArith]⟩
  case mul =>
    cases wr <;> dsimp only at h
    · obtain ⟨h1, rfl⟩ := h
      exact ⟨_, rfl, by simp [binOp, Op.intArith, inR_wrap h1]⟩
    · subst h
      exact ⟨_, rfl, by simp [binOp, Op.intArith]⟩
  case quo =>
    obtain ⟨⟨h0, h1⟩, rfl⟩ := h
    exact ⟨_, rfl, by simp [binOp, Op.intDiv, h0, inR_wrap h1]⟩
  case rem =>
    obtain ⟨h0, rfl⟩ := h
    exact ⟨_, rfl, by simp [binOp, Op.intDiv, h0]⟩
  all_goals
    subst h
    exact ⟨_, rfl, by simp [binOp, Op.intBits]⟩

theorem cmpV_run {op : BinOp} {k : IntKind} {a b : Int} {v : SV} {t : TypeId} (h : cmpV op a b (· = v)) (w : World) :
    ∃ c : Bool, v = .c (.bool c) ∧ (binOp op t (.int k a) (.int k b)).run P w = .ok (.bool c) w := by
  unfold cmpV at h
  cases op <;> dsimp only at h <;> first | (exact h.elim) | skip
  all_goals
    obtain ⟨c, rfl, hc⟩ := spl_bool h
    refine ⟨c, rfl, ?_⟩
    simp only [binOp, Op.intCmp, ne_eq, not_true_eq_false, if_false, Sem.run_pure]
    congr 2
    rw [Bool.eq_iff_iff, hc]
    simp

theorem eqGuard_int {op : BinOp} {t : TypeId} {x y : Operand} {k k' : IntKind} {a b : Int} (w : World) : (eqGuard op t x y (.int k a) (.int k' b)).run P w = .ok () w := by
  cases op <;> simp [eqGuard]
theorem eqGuard_bool {op : BinOp} {t : TypeId} {x y : Operand} {a b : Bool} (w : World) : (eqGuard op t x y (.bool a) (.bool b)).run P w = .ok () w := by
  cases op <;> simp [eqGuard]

theorem slice_run {t e : TypeId} {k : Nat} {x : Value} {lo hi : Option Value} {es : List (List CV)} {l h : Int} {own : Nat → Prop} (ht : P.underlying t = some (.slice e)) (hk : sizeOfT P e = some k) (hr : RepC w own (.sl k es) x)
    (hlo : match lo with | some v => ∃ kd, v = .int kd l | none => l = 0) (hhi : match hi with | some v => ∃ kd, v = .int kd h | none => h = es.length) (h0 : 0 ≤ l) (h1 : l ≤ h) (h2 : h ≤ es.length) :
    ∃ y, (Instr.sliceAt t x lo hi none).run P w = .ok y w ∧ RepC w own (.sl k ((es.take h.toNat).drop l.toNat)) y := by
  cases hr with
  | sl _ _ A c xs hkk hc1 hc2 hl hA hr =>
    obtain ⟨l, rfl⟩ := Int.eq_ofNat_of_zero_le h0
    obtain ⟨h, rfl⟩ := Int.eq_ofNat_of_zero_le (by omega : 0 ≤ h)
    have hlh : l ≤ h := by omega
    have hhn : h ≤ es.length := by omega
    have hb : (Instr.sliceBounds true es.length c lo hi none).run P w = .ok (l, h, c) w := by
      unfold Instr.sliceBounds Instr.sliceBound
      cases lo with
      | none =>
        cases hi with
        | none =>
          simp at hlo hhi
          subst hlo
          have : h = es.length := by omega
          subst this
          simp
        | some v =>
          obtain ⟨kd, rfl⟩ := hhi
          simp at hlo
          subst hlo
          simp [asIntOf]
          intro h'; omega
      | some u =>
        obtain ⟨kd, rfl⟩ := hlo
        cases hi with
        | none =>
          simp at hhi
          have : h = es.length := by omega
          subst this
          simp [asIntOf]
          intro h'; omega
        | some v =>
          obtain ⟨kd', rfl⟩ := hhi
          have h3 : h ≤ c := by omega
          simp [asIntOf, h3, hlh]
    have hlen : ((es.take h).drop l).length = h - l := by simp; omega
    refine ⟨.slice (if c = l then A else A.map (·.add (l * k))) (h - l) (c - l), ?_, ?_⟩
    · unfold Instr.sliceAt
      simp only [Sem.run_bind, run_underlying ht, Result.andThen_ok]
      unfold Instr.slice
      simp only [Sem.run_bind, run_underlying ht, Result.andThen_ok, hb, run_sizeT hk, Sem.run_pure]
    · have hsub : ∀ e ∈ (es.take h).drop l, e.length = k := fun e he => hkk e (List.mem_of_mem_take (List.mem_of_mem_drop he))
      have hfl : ∀ i : Nat, ((es.take h).drop l).flatten[i]? = if i < (h - l) * k then es.flatten[l * k + i]? else none := by
        intro i
        have e1 : es.flatten = (es.take l).flatten ++ ((es.take h).drop l).flatten ++ (es.drop h).flatten := by
          rw [← List.flatten_append, ← List.flatten_append]
          congr 1
          have : es.take l = (es.take h).take l := by rw [List.take_take, Nat.min_eq_left hlh]
          rw [this, List.take_append_drop, List.take_append_drop]
        have l1 : (es.take l).flatten.length = l * k := by rw [flatten_len (fun e he => hkk e (List.mem_of_mem_take he))]; congr 1; simp; omega
        have l2 : ((es.take h).drop l).flatten.length = (h - l) * k := by rw [flatten_len hsub, hlen]
        split
        · rename_i hi'
          rw [e1, List.getElem?_append_left (by rw [List.length_append, l1, l2]; omega), List.getElem?_append_right (by omega), l1]
          congr 1; omega
        · rw [List.getElem?_eq_none (by omega)]
      have hmul : h * k ≤ es.length * k := Nat.mul_le_mul_right k hhn
      have hsplit : l * k + (h - l) * k = h * k := by rw [← Nat.add_mul]; congr 1; omega
      have := RepC.sl (w := w) (own := own) k ((es.take h).drop l) (if c = l then A else A.map (·.add (l * k))) (c - l) ((xs.drop (l * k)).take ((h - l) * k)) hsub (by rw [hlen]; omega) (by omega)
        (by rw [hlen]; simp; omega) (fun hpos => ?_) (fun i cc v hc hv => ?_)
      · rw [hlen] at this; exact this
      · rw [hlen] at hpos
        obtain ⟨b, off, rfl, hb', ho, hx⟩ := hA (by omega)
        rw [if_neg (by omega)]
        refine ⟨b, off + l * k, by simp [addr_add], hb', ho, fun j u hu => ?_⟩
        obtain ⟨h1, _⟩ := take_get _ _ _ _ hu
        rw [List.getElem?_drop] at h1
        rw [Nat.add_assoc]; exact hx _ u h1
      · rw [hfl] at hc
        split at hc
        · obtain ⟨h1, _⟩ := take_get _ _ _ _ hv
          rw [List.getElem?_drop] at h1
          exact hr _ cc v hc h1
        · cases hc
end
end Go.Proofs.Ytbglmocgijlomaa
