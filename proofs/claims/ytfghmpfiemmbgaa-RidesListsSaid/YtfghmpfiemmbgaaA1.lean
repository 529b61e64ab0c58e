/- The abstract values of the engine and what they say of memory. No program in sight. -/
import Derived.Test.YtfghmpfiemmbgaaA0
namespace Go.Proofs.Ytfghmpfiemmbgaa
open Go.RowKit

/-- A closed value: it names no memory of the call's own. -/
inductive CV where
  | int (k : IntKind) (n : Int)
  | bool (b : Bool)
  | raw (v : Value)
  | nil
  | sl (k : Nat) (es : List (List CV))

/-- A value of the abstract walk. -/
inductive SV where
  | c (v : CV)
  | agg (cs : List SV)
  | bp (id j : Nat)
  | ep (id k i j : Nat)
  | osl (id : Nat)
  | rp (cs : List CV)
  | mp (id : Nat)
  | fn (f : Nat) (caps : List SV)
  | tup (vs : List SV)
  | none_
  | und

/-- An object of the call's own. -/
inductive Ob where
  | box (cs : List SV)
  | row (e k : Nat) (es : List (List CV))
  | map (kn : Nat) (ag : Bool) (kv : List (List Int × List CV))
  | dead

def SV.cell : SV → Bool
  | .agg _ | .tup _ | .none_ | .und => false
  | _ => true
def Ob.live : Ob → Bool
  | .dead => false
  | _ => true

def look {α : Type} : List (Nat × α) → Nat → Option α
  | [], _ => none
  | (i, x) :: r, j => match Nat.beq i j with
    | true => some x
    | false => look r j
theorem look_cons {α : Type} (i j : Nat) (x : α) (r : List (Nat × α)) : look ((i, x) :: r) j = if i = j then some x else look r j := by
  by_cases h : i = j
  · subst h; simp [look]
  · have hb : Nat.beq i j = false := by
      cases hb : Nat.beq i j with
      | false => rfl
      | true => exact absurd (Nat.eq_of_beq_eq_true hb) h
    rw [if_neg h]
    show (match Nat.beq i j with | true => some x | false => look r j) = _
    rw [hb]

structure St where
  env : List (Nat × SV)
  heap : List (Nat × Ob)
  nx : Nat

abbrev Iota := Nat → Option (Nat × Nat)

/-- The blocks that a stable reading must not touch. -/
def owned (F : Nat → Prop) (ι : Iota) (H : List (Nat × Ob)) (b : Nat) : Prop :=
  F b ∨ ∃ id o c, look H id = some o ∧ o.live = true ∧ ι id = some (b, c)

/-- A value in memory reads as a closed value. -/
inductive RepC (w : World) (own : Nat → Prop) : CV → Value → Prop
  | int (k : IntKind) (n : Int) : RepC w own (.int k n) (.int k n)
  | bool (b : Bool) : RepC w own (.bool b) (.bool b)
  | raw (v : Value) (h : v.oneCell' = true) : RepC w own (.raw v) v
  | nil : RepC w own .nil (.slice none 0 0)
  | sl (k : Nat) (es : List (List CV)) (A : Option Addr) (c : Nat) (xs : List Value) (hk : ∀ e ∈ es, e.length = k) (h1 : es.length ≤ c) (h2 : c ≤ 9223372036854775807) (hl : xs.length = es.length * k)
      (hA : 0 < es.length → ∃ b off, A = some ⟨b, off, none⟩ ∧ b < w.heap.size ∧ ¬ own b ∧ ∀ (j : Nat) (u : Value), xs[j]? = some u → w.cell? ⟨b, off + j, none⟩ = some u)
      (hr : ∀ (i : Nat) (c : CV) (v : Value), es.flatten[i]? = some c → xs[i]? = some v → RepC w own c v) : RepC w own (.sl k es) (.slice A es.length c)

def ownVal : Option (Nat × Nat) → Nat → Value
  | none, _ => .slice none 0 0
  | some (b, c), n => .slice (some ⟨b, 0, none⟩) n c

/-- A value of the frame reads as an abstract value. -/
inductive Rep (w : World) (own : Nat → Prop) (ι : Iota) (H : List (Nat × Ob)) (nx : Nat) : SV → Value → Prop
  | c (cv : CV) (v : Value) (h : RepC w own cv v) : Rep w own ι H nx (.c cv) v
  | agg (cs : List SV) (vs : List Value) (hl : cs.length = vs.length) (hc : ∀ s ∈ cs, s.cell = true) (h : ∀ (i : Nat) (s : SV) (v : Value), cs[i]? = some s → vs[i]? = some v → Rep w own ι H nx s v) : Rep w own ι H nx (.agg cs) (.agg vs.toArray)
  | bp (id j : Nat) (v : Value) (hx : id < nx) (h1 : v.oneCell' = true) (h : ∀ cs, look H id = some (.box cs) → ∃ b c, ι id = some (b, c) ∧ v = .pointer (some ⟨b, j, none⟩)) : Rep w own ι H nx (.bp id j) v
  | ep (id k i j : Nat) (v : Value) (hx : id < nx) (h1 : v.oneCell' = true) (h : ∀ e k' es, look H id = some (.row e k' es) → ∃ b c, ι id = some (b, c) ∧ v = .pointer (some ⟨b, i * k + j, none⟩)) : Rep w own ι H nx (.ep id k i j) v
  | osl (id : Nat) (v : Value) (hx : id < nx) (h1 : v.oneCell' = true) (h : ∀ e k es, look H id = some (.row e k es) → v = ownVal (ι id) es.length) : Rep w own ι H nx (.osl id) v
  | rp (cs : List CV) (b off : Nat) (xs : List Value) (hl : xs.length = cs.length) (hb : b < w.heap.size) (ho : ¬ own b) (hx : ∀ (j : Nat) (u : Value), xs[j]? = some u → w.cell? ⟨b, off + j, none⟩ = some u)
      (h : ∀ (i : Nat) (c : CV) (v : Value), cs[i]? = some c → xs[i]? = some v → RepC w own c v) : Rep w own ι H nx (.rp cs) (.pointer (some ⟨b, off, none⟩))
  | mp (id : Nat) (v : Value) (hx : id < nx) (h1 : v.oneCell' = true) (h : ∀ kn ag kv, look H id = some (.map kn ag kv) → ∃ b c, ι id = some (b, c) ∧ v = .map (some b)) : Rep w own ι H nx (.mp id) v
  | fn (f : Nat) (caps : List SV) (vs : List Value) (hl : caps.length = vs.length) (h : ∀ (i : Nat) (s : SV) (v : Value), caps[i]? = some s → vs[i]? = some v → Rep w own ι H nx s v) : Rep w own ι H nx (.fn f caps) (.func (.func f) #[] vs.toArray)
  | tup (ss : List SV) (vs : List Value) (hl : ss.length = vs.length) (h : ∀ (i : Nat) (s : SV) (v : Value), ss[i]? = some s → vs[i]? = some v → Rep w own ι H nx s v) : Rep w own ι H nx (.tup ss) (.tuple vs.toArray)
  | none_ (v : Value) : Rep w own ι H nx .none_ v
  | und : Rep w own ι H nx .und undef

theorem RepC.one {w : World} {own : Nat → Prop} {c : CV} {v : Value} (h : RepC w own c v) : v.oneCell' = true := by
  cases h <;> first | assumption | rfl
theorem Rep.one {w : World} {own : Nat → Prop} {ι : Iota} {H : List (Nat × Ob)} {nx : Nat} {s : SV} {v : Value} (h : Rep w own ι H nx s v) (hc : s.cell = true) : v.oneCell' = true := by
  cases h <;> first | assumption | rfl | (simp [SV.cell] at hc; done) | skip
  rename_i h; exact h.one

/-- What a step keeps of stable memory. -/
structure Keeps (w w' : World) (own own' : Nat → Prop) : Prop where
  size : w.heap.size ≤ w'.heap.size
  cell : ∀ (b o : Nat) (u : Value), b < w.heap.size → ¬ own b → w.cell? ⟨b, o, none⟩ = some u → w'.cell? ⟨b, o, none⟩ = some u
  own : ∀ b, b < w.heap.size → own' b → own b

theorem Keeps.of_below {w w' : World} (own : Nat → Prop) (h : Below w.heap.size w w') : Keeps w w' own own :=
  ⟨h.size, fun b o _ hb _ hc => (h.cell (p := ⟨b, o, none⟩) hb).trans hc, fun _ _ h => h⟩

theorem RepC.keep {w w' : World} {own own' : Nat → Prop} (k : Keeps w w' own own') {c : CV} {v : Value} (h : RepC w own c v) : RepC w' own' c v := by
  induction h with
  | int k n => exact .int k n
  | bool b => exact .bool b
  | raw v h => exact .raw v h
  | nil => exact .nil
  | sl kk es A c xs hk h1 h2 hl hA hr ih =>
    refine .sl kk es A c xs hk h1 h2 hl (fun h0 => ?_) ih
    obtain ⟨b, off, rfl, hb, ho, hx⟩ := hA h0
    exact ⟨b, off, rfl, Nat.lt_of_lt_of_le hb k.size, fun h => ho (k.own b hb h), fun j u hu => k.cell b _ u hb ho (hx j u hu)⟩

/-- The heap's rows keep their shape, and new ids are new. -/
structure Shapes (ι ι' : Iota) (H H' : List (Nat × Ob)) (nx nx' : Nat) : Prop where
  le : nx ≤ nx'
  box : ∀ id cs, id < nx → look H' id = some (.box cs) → ι' id = ι id ∧ ∃ cs', look H id = some (.box cs')
  row : ∀ id e k es, id < nx → look H' id = some (.row e k es) → ι' id = ι id ∧ ∃ e' k' es', look H id = some (.row e' k' es') ∧ es'.length = es.length
  map : ∀ id kn ag kv, id < nx → look H' id = some (.map kn ag kv) → ι' id = ι id ∧ ∃ kn' ag' kv', look H id = some (.map kn' ag' kv')

theorem Shapes.refl (ι : Iota) (H : List (Nat × Ob)) (nx : Nat) : Shapes ι ι H H nx nx :=
  ⟨Nat.le_refl _, fun _ cs _ h => ⟨rfl, cs, h⟩, fun _ e k es _ h => ⟨rfl, e, k, es, h, rfl⟩, fun _ kn ag kv _ h => ⟨rfl, kn, ag, kv, h⟩⟩

theorem Rep.keep {w w' : World} {own own' : Nat → Prop} {ι ι' : Iota} {H H' : List (Nat × Ob)} {nx nx' : Nat} (k : Keeps w w' own own') (sh : Shapes ι ι' H H' nx nx') {s : SV} {v : Value} (h : Rep w own ι H nx s v) : Rep w' own' ι' H' nx' s v := by
  induction h with
  | c cv v h => exact .c cv v (h.keep k)
  | agg cs vs hl hc h ih => exact .agg cs vs hl hc ih
  | bp id j v hx h1 h =>
    refine .bp id j v (Nat.lt_of_lt_of_le hx sh.le) h1 fun cs hh => ?_
    obtain ⟨e, cs', h'⟩ := sh.box id cs hx hh
    rw [e]; exact h cs' h'
  | ep id kk i j v hx h1 h =>
    refine .ep id kk i j v (Nat.lt_of_lt_of_le hx sh.le) h1 fun e k' es hh => ?_
    obtain ⟨e0, e', k'', es', h', _⟩ := sh.row id e k' es hx hh
    rw [e0]; exact h _ _ _ h'
  | osl id v hx h1 h =>
    refine .osl id v (Nat.lt_of_lt_of_le hx sh.le) h1 fun e k' es hh => ?_
    obtain ⟨e0, e', k'', es', h', hl⟩ := sh.row id e k' es hx hh
    rw [e0, ← hl]; exact h _ _ _ h'
  | rp cs b off xs hl hb ho hx h =>
    exact .rp cs b off xs hl (Nat.lt_of_lt_of_le hb k.size) (fun h => ho (k.own b hb h)) (fun j u hu => k.cell b _ u hb ho (hx j u hu)) fun i c v hc hv => (h i c v hc hv).keep k
  | mp id v hx h1 h =>
    refine .mp id v (Nat.lt_of_lt_of_le hx sh.le) h1 fun kn ag kv hh => ?_
    obtain ⟨e, kn', ag', kv', h'⟩ := sh.map id kn ag kv hx hh
    rw [e]; exact h kn' ag' kv' h'
  | fn f caps vs hl h ih => exact .fn f caps vs hl ih
  | tup ss vs hl h ih => exact .tup ss vs hl ih
  | none_ v => exact .none_ v
  | und => exact .und

def CV.val : CV → Value
  | .int k n => .int k n
  | .bool b => .bool b
  | .raw v => v
  | .nil => .slice none 0 0
  | .sl _ _ => .tuple #[]
def CV.scalar : CV → Bool
  | .int _ _ | .bool _ => true
  | _ => false

/-- A map's key (0: a number, n: a struct of n numbers) and what it holds (numbers; a struct or one). -/
def encKey (kn : Nat) (k : List Int) : Value :=
  match kn, k with
  | 0, [n] => .int .i64 n
  | 0, _ => undef
  | _, k => .agg (k.map (Value.int .i64)).toArray
def keyLen (kn : Nat) (k : List Int) : Bool :=
  match kn with
  | 0 => Nat.beq k.length 1
  | n + 1 => Nat.beq k.length (n + 1)
def encCell (ag : Bool) (l : List CV) : Value :=
  match ag, l with
  | true, l => .agg (l.map CV.val).toArray
  | false, [c] => c.val
  | false, _ => undef

/-- What an object of the call's own says of memory. -/
def ObRep (w : World) (own : Nat → Prop) (ι : Iota) (H : List (Nat × Ob)) (nx base id : Nat) : Ob → Prop
  | .box cs => ∃ b c cur e, ι id = some (b, c) ∧ base ≤ b ∧ w.heap[b]? = some (.cells cur e (0, 0)) ∧ cur.size = cs.length ∧ ∀ (j : Nat) (s : SV) (u : Value), cs[j]? = some s → cur[j]? = some u → s.cell = true ∧ Rep w own ι H nx s u
  | .row e k es => ∃ xs, w.ownsRow base e k (ownVal (ι id) es.length) es.length xs ∧ (∀ r ∈ es, r.length = k) ∧ ∀ (i : Nat) (c : CV) (v : Value), es.flatten[i]? = some c → xs[i]? = some v → RepC w own c v
  | .map kn ag kv => ∃ b c arr ck, ι id = some (b, c) ∧ base ≤ b ∧ w.heap[b]? = some (.map arr ck) ∧ arr.toList.map (fun e => (e.key, e.val)) = kv.map (fun p => (encKey kn p.1, encCell ag p.2)) ∧ ∀ p ∈ kv, keyLen kn p.1 = true ∧ (p.2.all CV.scalar && (ag || Nat.beq p.2.length 1)) = true
  | .dead => True

/-- The world stands as the abstract heap says. -/
structure Mem (F : Nat → Prop) (w0 : World) (ι : Iota) (H : List (Nat × Ob)) (nx : Nat) (w : World) : Prop where
  below : Below w0.heap.size w0 w
  fb : ∀ b, F b → b < w0.heap.size
  heap : ∀ id o, look H id = some o → id < nx ∧ ObRep w (owned F ι H) ι H nx w0.heap.size id o
  inj : ∀ id id' o o' b c c', look H id = some o → o.live = true → look H id' = some o' → o'.live = true → ι id = some (b, c) → ι id' = some (b, c') → id = id'

/-- The frame and the world stand as the abstract state says. -/
structure Rel (F : Nat → Prop) (w0 : World) (n : Nat) (ι : Iota) (s : St) (a : Act) (w : World) : Prop where
  size : a.tmps.size = n
  defers : a.defers = []
  drawn : w0.drawn ≤ w.drawn
  mem : Mem F w0 ι s.heap s.nx w
  env : ∀ t v, look s.env t = some v → Rep w (owned F ι s.heap) ι s.heap s.nx v (a.tmps.getD t undef)

end Go.Proofs.Ytfghmpfiemmbgaa
