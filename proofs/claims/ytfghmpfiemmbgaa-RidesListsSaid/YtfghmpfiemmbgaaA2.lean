/- The abstract walk: what operations do to abstract values, and the condition that a text must meet. No program in sight. -/
import Derived.Test.YtfghmpfiemmbgaaA1
namespace Go.Proofs.Ytfghmpfiemmbgaa
open Go.RowKit

def callable (P : Program) (f : Nat) : Bool :=
  match P.funcs[f]? with
  | some fn => fn.body.isSome && !(fn.name == "runtime.NumGoroutine")
  | none => false

/-! ### contracts -/
structure Spec where
  X : Type
  args : X → List SV
  pre : X → Prop
  res : X → SV
  obs : X → List Ob

def idxFrom (k : Nat) : List Ob → List (Nat × Ob)
  | [] => []
  | o :: r => (k, o) :: idxFrom (k + 1) r

def RepList (w : World) (own : Nat → Prop) (ι : Iota) (H : List (Nat × Ob)) (nx : Nat) (ss : List SV) (vs : List Value) : Prop :=
  ss.length = vs.length ∧ ∀ (i : Nat) (s : SV) (v : Value), ss[i]? = some s → vs[i]? = some v → Rep w own ι H nx s v

/-- What a call leaves: the value, the objects that it made and gives away, all else as it was. -/
def CallPost (F : Nat → Prop) (w : World) (r : SV) (obs : List Ob) (e : Ending) (w' : World) : Prop :=
  ∃ v ι, e = .returned v ∧ Below w.heap.size w w' ∧ w.drawn ≤ w'.drawn ∧ Rep w' (owned F ι (idxFrom 0 obs)) ι (idxFrom 0 obs) obs.length r v ∧
    (∀ id o, look (idxFrom 0 obs) id = some o → ObRep w' (owned F ι (idxFrom 0 obs)) ι (idxFrom 0 obs) obs.length w.heap.size id o) ∧
    (∀ id id' o o' b c c', look (idxFrom 0 obs) id = some o → o.live = true → look (idxFrom 0 obs) id' = some o' → o'.live = true → ι id = some (b, c) → ι id' = some (b, c') → id = id')

def Holds (P : Program) (f : Nat) (S : Spec) : Prop :=
  ∀ (x : S.X) (F : Nat → Prop) (w : World) (vs : List Value), S.pre x → (∀ b, F b → b < w.heap.size) → RepList w F (fun _ => none) [] 0 (S.args x) vs → Calls P f vs.toArray w (CallPost F w (S.res x) (S.obs x))

/-- A contract of a function that writes the row that is its first argument. -/
structure MSpec where
  X : Type
  e : Nat
  k : Nat
  rows : X → List (List CV)
  args : X → List SV
  pre : X → Prop
  post : X → List (List CV) → Prop
def RowsRep (w : World) (own : Nat → Prop) (k : Nat) (es : List (List CV)) (xs : List Value) : Prop :=
  (∀ r ∈ es, r.length = k) ∧ ∀ (i : Nat) (c : CV) (v : Value), es.flatten[i]? = some c → xs[i]? = some v → RepC w own c v
def HoldsM (P : Program) (f : Nat) (M : MSpec) : Prop :=
  ∀ (x : M.X) (own : Nat → Prop) (w : World) (base : Nat) (p : Option (Nat × Nat)) (xs vs : List Value), M.pre x → (∀ b c, p = some (b, c) → own b) → base ≤ w.heap.size → w.ownsRow base M.e M.k (ownVal p (M.rows x).length) (M.rows x).length xs → RowsRep w own M.k (M.rows x) xs →
    RepList w (fun b => ∃ c, p = some (b, c)) (fun _ => none) [] 0 (M.args x) vs →
    Calls P f (ownVal p (M.rows x).length :: vs).toArray w fun ed w' => ∃ ys xs', ed = .returned (.tuple #[]) ∧ w.drawn ≤ w'.drawn ∧ w.grownBy w' (ownVal p (M.rows x).length).ownBlock ∧ M.post x ys ∧ ys.length = (M.rows x).length ∧
      w'.ownsRow base M.e M.k (ownVal p (M.rows x).length) (M.rows x).length xs' ∧ RowsRep w' own M.k ys xs'

/-! ### views -/
def closed1 (H : List (Nat × Ob)) : SV → Option CV
  | .c v => some v
  | .osl id => match look H id with
    | some (.row _ k es) => some (.sl k es)
    | _ => none
  | _ => none
def closedL (H : List (Nat × Ob)) : List SV → Option (List CV)
  | [] => some []
  | s :: r => match closed1 H s, closedL H r with
    | some c, some l => some (c :: l)
    | _, _ => none
def SV.cells : SV → List SV
  | .agg cs => cs
  | v => [v]
def view0 (H : List (Nat × Ob)) : SV → SV
  | .c v => .c v
  | .rp cs => .rp cs
  | .osl id => match look H id with
    | some (.row _ k es) => .c (.sl k es)
    | _ => .none_
  | .bp id j => match look H id with
    | some (.box cs) => (match closedL H (cs.drop j) with
      | some l => .rp l
      | none => .none_)
    | _ => .none_
  | .fn f [] => .fn f []
  | _ => .none_
def viewL (H : List (Nat × Ob)) : List SV → List SV
  | [] => []
  | s :: r => view0 H s :: viewL H r
def view (H : List (Nat × Ob)) : SV → SV
  | .agg cs => match (viewL H cs).all SV.cell with
    | true => .agg (viewL H cs)
    | false => .none_
  | .fn f caps => .fn f (viewL H caps)
  | s => view0 H s
def views (H : List (Nat × Ob)) : List SV → List SV
  | [] => []
  | s :: r => view H s :: views H r

def leC : CV → CV → Prop
  | .nil, .sl _ es => es = []
  | x, y => x = y
def le0 : SV → SV → Prop
  | .c x, .c y => leC x y
  | x, y => x = y
def leL : List SV → List SV → Prop
  | [], [] => True
  | x :: r, y :: t => le0 x y ∧ leL r t
  | _, _ => False
def leV : SV → SV → Prop
  | .agg a, .agg b => leL a b
  | .tup a, .tup b => leL a b
  | x, y => le0 x y
def leVs : List SV → List SV → Prop
  | [], [] => True
  | x :: r, y :: t => leV x y ∧ leVs r t
  | _, _ => False

/-- No row of the call's own among the arguments. -/
def free1 : SV → Bool
  | .c _ | .rp _ => true
  | .fn _ [] => true
  | _ => false
def freeL : List SV → Bool
  | [] => true
  | s :: r => (match s with
    | .agg cs => cs.all free1
    | .fn _ caps => caps.all free1
    | s => free1 s) && freeL r
/-- Numbers and truth values alone. -/
def plain1 : SV → Bool
  | .c (.int _ _) | .c (.bool _) => true
  | _ => false
def plainV : SV → Bool
  | .agg cs => cs.all plain1
  | .tup cs => cs.all plain1
  | s => plain1 s

/-! ### operations -/
inductive IOp where
  | mov | pick
  | build (zero : List CV) (parts : List (Nat × Nat))
  | buildSl (e k : Nat)
  | load (k : Nat) (ag : Bool)
  | bin (op : BinOp) (kd : IntKind) (wr : Bool)
  | cmp (op : BinOp)
  | eqb (neq : Bool)
  | eqa (ks : List Bool) (neq : Bool)
  | not | neg (kd : IntKind)
  | conv (kd : IntKind)
  | fn (f : Nat)
  | slice (k : Nat) (lo hi : Bool)
  | faddr (off : Nat)
  | field (off k : Nat) (ag : Bool)
  | idx (k : Nat)
  | extract (i : Nat)
  | len | min | max | nilchk
  | call (f : Nat)
  | callv
  -- these change what the call owns
  | alloc (zero : List CV)
  | box
  | store (k : Nat)
  | append (e k bytes : Nat)
  | mksl (e k bytes : Nat) (zero : List CV)
  | mkmap (kn : Nat) (ag : Bool)
  | mapset (kn : Nat) (ag : Bool)
  | buildOwn (e k : Nat)
  | nilOwn (e k : Nat)
  | sliceF (k : Nat) (lo hi : Bool)
  | isnil (neq : Bool)
  | lookup (z : List CV) (kn : Nat) (ag ok : Bool)
  | callm (f : Nat)
  | callo (f : Nat)

def ikB (a b : IntKind) : Bool := Nat.beq a.ctorIdx b.ctorIdx
def isShift : BinOp → Bool
  | .shl | .shr => true
  | _ => false
def inR : IntKind → Int → Prop
  | .i64, n => -9223372036854775808 ≤ n ∧ n ≤ 9223372036854775807
  | k, n => k.wrap n = n

/-- A check that the text itself decides. -/
def chk (b : Bool) (p : Prop) : Prop := match b with
  | true => p
  | false => False
theorem chk_iff {b : Bool} {p : Prop} : chk b p ↔ b = true ∧ p := by cases b <;> simp [chk]
def norm (v : SV) (K : SV → Prop) : Prop :=
  match v with
  | .c (.bool b) => (b = true → K (.c (.bool true))) ∧ (b = false → K (.c (.bool false)))
  | v => K v

def spl (p : Prop) (K : SV → Prop) : Prop := (p → K (.c (.bool true))) ∧ (¬ p → K (.c (.bool false)))

/-- Cells of numbers (false) and truth values (true) that are equal. -/
def eqCells : List Bool → List SV → List SV → Option Prop
  | [], [], [] => some True
  | false :: ks, .c (.int k a) :: r, .c (.int k' b) :: t => match ikB k k', eqCells ks r t with
    | true, some p => some (a = b ∧ p)
    | _, _ => none
  | true :: ks, .c (.bool a) :: r, .c (.bool b) :: t => match eqCells ks r t with
    | some p => some (a = b ∧ p)
    | none => none
  | _, _, _ => none

def setL {α : Type} : List α → Nat → List α → List α
  | cs, _, [] => cs
  | [], _, _ => []
  | _ :: r, 0, n :: ns => n :: setL r 0 ns
  | c :: r, off + 1, ns => c :: setL r off ns
def fillL : List SV → List (Nat × Nat) → List SV → Option (List SV)
  | cs, [], [] => some cs
  | cs, (off, k) :: ps, v :: vs => match Nat.beq v.cells.length k && (Nat.ble (off + k) cs.length && v.cells.all SV.cell) with
    | true => fillL (setL cs off v.cells) ps vs
    | false => none
  | _, _, _ => none
def rowsL (k : Nat) : List SV → Option (List (List CV))
  | [] => some []
  | v :: r => match closedL [] v.cells, rowsL k r with
    | some l, some t => match Nat.beq l.length k with
      | true => some (l :: t)
      | false => none
    | _, _ => none

/-- k cells as a value. -/
def fromCells (ag : Bool) (cs : List SV) (K : SV → Prop) : Prop :=
  match ag with
  | true => K (.agg cs)
  | false => match cs with
    | c :: _ => norm c K
    | [] => False

def binV (op : BinOp) (kd : IntKind) (wr : Bool) (a b : Int) (K : SV → Prop) : Prop :=
  match op with
  | .add => match wr with
    | true => K (.c (.int kd (kd.wrap (a + b))))
    | false => inR kd (a + b) ∧ K (.c (.int kd (a + b)))
  | .sub => match wr with
    | true => K (.c (.int kd (kd.wrap (a - b))))
    | false => inR kd (a - b) ∧ K (.c (.int kd (a - b)))
  | .mul => match wr with
    | true => K (.c (.int kd (kd.wrap (a * b))))
    | false => inR kd (a * b) ∧ K (.c (.int kd (a * b)))
  | .quo => (b ≠ 0 ∧ inR kd (a.tdiv b)) ∧ K (.c (.int kd (a.tdiv b)))
  | .rem => b ≠ 0 ∧ K (.c (.int kd (a.tmod b)))
  | .and => K (.c (.int kd (kd.wrap ((BitVec.ofInt kd.bits a &&& BitVec.ofInt kd.bits b).toNat))))
  | .or => K (.c (.int kd (kd.wrap ((BitVec.ofInt kd.bits a ||| BitVec.ofInt kd.bits b).toNat))))
  | .xor => K (.c (.int kd (kd.wrap ((BitVec.ofInt kd.bits a ^^^ BitVec.ofInt kd.bits b).toNat))))
  | .andNot => K (.c (.int kd (kd.wrap ((BitVec.ofInt kd.bits a &&& ~~~ BitVec.ofInt kd.bits b).toNat))))
  | .shl => 0 ≤ b ∧ K (.c (.int kd (kd.wrap (a * 2 ^ Nat.min b.toNat kd.bits))))
  | .shr => 0 ≤ b ∧ K (.c (.int kd (a.fdiv (2 ^ Nat.min b.toNat kd.bits))))
  | _ => False
def cmpV (op : BinOp) (a b : Int) (K : SV → Prop) : Prop :=
  match op with
  | .eql => spl (a = b) K
  | .neq => spl (a ≠ b) K
  | .lss => spl (a < b) K
  | .leq => spl (a ≤ b) K
  | .gtr => spl (b < a) K
  | .geq => spl (b ≤ a) K
  | _ => False
def sliceB (n : Nat) (lo hi : Bool) (xs : List SV) : Option (Int × Int) :=
  match lo, hi, xs with
  | false, false, [] => some (0, n)
  | true, false, [.c (.int _ l)] => some (l, n)
  | false, true, [.c (.int _ h)] => some (0, h)
  | true, true, [.c (.int _ l), .c (.int _ h)] => some (l, h)
  | _, _, _ => none
def keyOf (kn : Nat) (s : SV) : Option (List Int) :=
  match kn, s with
  | 0, .c (.int .i64 n) => some [n]
  | _ + 1, .agg cs => keyL cs
  | _, _ => none
where keyL : List SV → Option (List Int)
  | [] => some []
  | .c (.int .i64 n) :: r => match keyL r with
    | some l => some (n :: l)
    | none => none
  | _ => none
def findKV (k : List Int) : List (List Int × List CV) → Option (List CV)
  | [] => none
  | p :: r => if k = p.1 then some p.2 else findKV k r
def bB : Bool → Bool → Bool
  | true, b => b
  | false, true => false
  | false, false => true
def valOk (ag : Bool) : SV → Bool
  | .agg _ => ag
  | .c _ => bB ag false
  | _ => false
def gotV (ag ok : Bool) (l : List CV) (b : Bool) (K : SV → Prop) : Prop :=
  match ag, l with
  | true, l => (match ok with
    | true => K (.tup [.agg (l.map .c), .c (.bool b)])
    | false => K (.agg (l.map .c)))
  | false, [c] => (match ok with
    | true => K (.tup [.c c, .c (.bool b)])
    | false => K (.c c))
  | false, _ => False
def setKV (k : List Int) (v : List CV) : List (List Int × List CV) → List (List Int × List CV)
  | [] => [(k, v)]
  | p :: r => if k = p.1 then (p.1, v) :: r else p :: setKV k v r

/-- A call met by a contract. -/
def callV (P : Program) (f : Nat) (H : List (Nat × Ob)) (xs : List SV) (K : SV → List Ob → Prop) : Prop :=
  ∃ S : Spec, Holds P f S ∧ ∃ x : S.X, S.pre x ∧ leVs (views H xs) (S.args x) ∧ (freeL xs = true ∨ plainV (S.res x) = true) ∧ K (S.res x) (S.obs x)

/-- The rows handed to a call are given up. -/
def ids1 : SV → List Nat
  | .osl id => [id]
  | .bp id _ => [id]
  | .ep id _ _ _ => [id]
  | _ => []
def idsV : SV → List Nat
  | .agg cs => cs.flatMap ids1
  | .fn _ cs => cs.flatMap ids1
  | s => ids1 s
def killI : List Nat → List (Nat × Ob) → List (Nat × Ob)
  | [], H => H
  | i :: r, H => killI r ((i, .dead) :: H)
def kills (xs : List SV) (H : List (Nat × Ob)) : List (Nat × Ob) := killI (xs.flatMap idsV) H
def rowsO : List Ob → Prop
  | [] => True
  | .row _ _ _ :: r => rowsO r
  | _ => False
def ownArg1 : SV → Bool
  | .c _ | .rp _ | .osl _ => true
  | .fn _ [] => true
  | _ => false
def ownArgs : List SV → Bool
  | [] => true
  | s :: r => (match s with
    | .agg cs => cs.all ownArg1
    | .fn _ caps => caps.all ownArg1
    | s => ownArg1 s) && ownArgs r
def callO (P : Program) (f : Nat) (H : List (Nat × Ob)) (xs : List SV) (K : SV → List Ob → Prop) : Prop :=
  ownArgs xs = true ∧ ∃ S : Spec, Holds P f S ∧ ∃ x : S.X, S.pre x ∧ leVs (views H xs) (S.args x) ∧ rowsO (S.obs x) ∧ K (S.res x) (S.obs x)

/-- What an operation that changes nothing of what the call owns yields. -/
def pop (P : Program) (op : IOp) (H : List (Nat × Ob)) (xs : List SV) (K : SV → Prop) : Prop :=
  match op with
  | .mov => match xs with
    | [x] => K x
    | _ => False
  | .pick => match xs with
    | [.c (.bool true), x, _] => K x
    | [.c (.bool false), _, y] => K y
    | _ => False
  | .build zero parts => match fillL (zero.map .c) parts xs with
    | some cs => K (.agg cs)
    | none => False
  | .buildSl _ k => match rowsL k xs with
    | some es => K (.c (.sl k es))
    | none => False
  | .load k ag => match xs with
    | [.bp id j] => (match look H id with
      | some (.box cs) => chk (Nat.ble (j + k) cs.length) (fromCells ag ((cs.drop j).take k) K)
      | _ => False)
    | [.rp cs] => chk (Nat.ble k cs.length) (fromCells ag ((cs.take k).map .c) K)
    | [.ep id k' i j] => (match look H id with
      | some (.row _ k'' es) => chk (Nat.beq k' k'' && Nat.ble (j + k) k') (i < es.length ∧ ∀ r, es[i]? = some r → fromCells ag (((r.drop j).take k).map .c) K)
      | _ => False)
    | _ => False
  | .bin o kd wr => match xs with
    | [.c (.int k1 a), .c (.int k2 b)] => (match isShift o || ikB k2 kd, ikB k1 kd with
      | true, true => binV o kd wr a b K
      | _, _ => False)
    | _ => False
  | .cmp o => match xs with
    | [.c (.int k1 a), .c (.int k2 b)] => (match ikB k1 k2 with
      | true => cmpV o a b K
      | false => False)
    | _ => False
  | .eqb neq => match xs with
    | [.c (.bool a), .c (.bool b)] => (match neq with
      | true => spl (a ≠ b) K
      | false => spl (a = b) K)
    | _ => False
  | .eqa ks neq => match xs with
    | [.agg a, .agg b] => (match eqCells ks a b with
      | some p => (match neq with
        | true => spl (¬ p) K
        | false => spl p K)
      | none => False)
    | _ => False
  | .not => match xs with
    | [.c (.bool b)] => K (.c (.bool (!b)))
    | _ => False
  | .neg kd => match xs with
    | [.c (.int k a)] => (match ikB k kd with
      | true => inR kd (0 - a) ∧ K (.c (.int kd (0 - a)))
      | false => False)
    | _ => False
  | .conv kd => match xs with
    | [.c (.int _ a)] => inR kd a ∧ K (.c (.int kd a))
    | _ => False
  | .fn f => K (.fn f xs)
  | .slice k lo hi => match xs with
    | .c (.sl k' es) :: r => (match sliceB es.length lo hi r with
      | some (l, h) => chk (Nat.beq k' k) ((0 ≤ l ∧ l ≤ h ∧ h ≤ es.length) ∧ K (.c (.sl k ((es.take h.toNat).drop l.toNat))))
      | none => False)
    | _ => False
  | .faddr off => match xs with
    | [.rp cs] => chk (Nat.ble off cs.length) (K (.rp (cs.drop off)))
    | [.bp id j] => (match look H id with
      | some (.box _) => K (.bp id (j + off))
      | _ => False)
    | [.ep id k i j] => (match look H id with
      | some (.row _ _ _) => K (.ep id k i (j + off))
      | _ => False)
    | _ => False
  | .field off k ag => match xs with
    | [.agg cs] => chk (Nat.ble (off + k) cs.length) (fromCells ag ((cs.drop off).take k) K)
    | _ => False
  | .idx k => match xs with
    | [.c (.sl k' es), .c (.int _ i)] => chk (Nat.beq k' k) ((0 ≤ i ∧ i < es.length) ∧ ∀ r, es[i.toNat]? = some r → K (.rp r))
    | [.osl id, .c (.int _ i)] => (match look H id with
      | some (.row _ k' es) => chk (Nat.beq k' k) ((0 ≤ i ∧ i < es.length) ∧ K (.ep id k i.toNat 0))
      | _ => False)
    | _ => False
  | .extract i => match xs with
    | [.tup vs] => (match vs[i]? with
      | some v => norm v K
      | none => False)
    | _ => False
  | .len => match xs with
    | [.c .nil] => K (.c (.int .i64 0))
    | [.c (.sl _ es)] => K (.c (.int .i64 es.length))
    | [.osl id] => (match look H id with
      | some (.row _ _ es) => K (.c (.int .i64 es.length))
      | _ => False)
    | _ => False
  | .min => match xs with
    | [.c (.int k a), .c (.int _ b)] => K (.c (.int k (Min.min a b)))
    | _ => False
  | .max => match xs with
    | [.c (.int k a), .c (.int _ b)] => K (.c (.int k (Max.max a b)))
    | _ => False
  | .nilchk => match xs with
    | [.rp cs] => K (.rp cs)
    | [.bp id j] => (match look H id with
      | some (.box _) => K (.bp id j)
      | _ => False)
    | [.ep id k i j] => (match look H id with
      | some (.row _ _ _) => K (.ep id k i j)
      | _ => False)
    | [.fn f caps] => K (.fn f caps)
    | _ => False
  | .call f => callV P f H xs fun r obs => obs = [] ∧ norm r K
  | .callv => match xs with
    | .fn f caps :: ys => callable P f = true ∧ callV P f H (ys ++ caps) fun r obs => obs = [] ∧ norm r K
    | _ => False
  | _ => False

def St.set (s : St) (d : Option Nat) (v : SV) : St :=
  match d with
  | some t => { s with env := (t, v) :: s.env }
  | none => s
def St.new (s : St) (o : Ob) : St := { s with heap := (s.nx, o) :: s.heap, nx := s.nx + 1 }
def St.put (s : St) (id : Nat) (o : Ob) : St := { s with heap := (id, o) :: s.heap }
def St.news (s : St) : List Ob → St
  | [] => s
  | o :: r => (s.new o).news r
def shift (n : Nat) : SV → SV
  | .osl id => .osl (n + id)
  | .bp id j => .bp (n + id) j
  | .ep id k i j => .ep (n + id) k i j
  | .mp id => .mp (n + id)
  | .agg cs => .agg (shiftL n cs)
  | .tup cs => .tup (shiftL n cs)
  | .fn f cs => .fn f (shiftL n cs)
  | s => s
where shiftL (n : Nat) : List SV → List SV
  | [] => []
  | s :: r => shift n s :: shiftL n r

/-- The rows that an append takes in. -/
def srcRows (H : List (Nat × Ob)) (k : Nat) : SV → Option (List (List CV))
  | .c .nil => some []
  | .c (.sl k' es) => match Nat.beq k' k with
    | true => some es
    | false => none
  | .osl id => match look H id with
    | some (.row _ k' es) => match Nat.beq k' k with
      | true => some es
      | false => none
    | _ => none
  | _ => none

/-- What an operation that changes what the call owns does. -/
def eop (P : Program) (op : IOp) (s : St) (xs : List SV) (K : SV → St → Prop) : Prop :=
  match op with
  | .alloc zero => K (.bp s.nx 0) (s.new (.box (zero.map .c)))
  | .box => match xs with
    | [v] => chk (v.cells.all SV.cell) (K (.bp s.nx 0) (s.new (.box v.cells)))
    | _ => False
  | .store k => match xs with
    | [.bp id j, v] => (match look s.heap id with
      | some (.box cs) => chk (Nat.ble (j + k) cs.length && (Nat.beq v.cells.length k && v.cells.all SV.cell)) (K .none_ (s.put id (.box (setL cs j v.cells))))
      | _ => False)
    | [.ep id k' i j, v] => (match look s.heap id, closedL [] v.cells with
      | some (.row e k'' es), some l => chk (Nat.beq k' k'' && (Nat.ble (j + k) k' && Nat.beq l.length k)) (i < es.length ∧ ∀ r, es[i]? = some r → K .none_ (s.put id (.row e k'' (es.set i (setL r j l)))))
      | _, _ => False)
    | _ => False
  | .append e k bytes => match xs with
    | [.c .nil, src] => (match srcRows s.heap k src with
      | some ys => (ys.length * bytes ≤ 140737488355328 ∧ ys.length ≤ 140737488355328) ∧ K (.osl s.nx) (s.new (.row e k ys))
      | none => False)
    | [.osl id, src] => (match look s.heap id, srcRows s.heap k src with
      | some (.row e' k' es), some ys => chk (Nat.beq e' e && Nat.beq k' k) (((es.length + ys.length) * bytes ≤ 140737488355328 ∧ es.length + ys.length ≤ 140737488355328) ∧ K (.osl s.nx) ((s.put id .dead).new (.row e k (es ++ ys))))
      | _, _ => False)
    | _ => False
  | .mksl e k bytes zero => match xs with
    | [.c (.int _ n), .c (.int _ c)] => (0 ≤ n ∧ n ≤ c ∧ c * bytes ≤ 140737488355328 ∧ c ≤ 140737488355328) ∧ K (.osl s.nx) (s.new (.row e k (List.replicate n.toNat zero)))
    | _ => False
  | .mkmap kn ag => match xs with
    | [] => K (.mp s.nx) (s.new (.map kn ag []))
    | [.c (.int _ _)] => K (.mp s.nx) (s.new (.map kn ag []))
    | _ => False
  | .mapset kn ag => match xs with
    | [.mp id, key, v] => (match look s.heap id, keyOf kn key, closedL [] v.cells with
      | some (.map kn' ag' kv), some k, some l => chk (Nat.beq kn kn' && (bB ag ag' && (keyLen kn k && (l.all CV.scalar && valOk ag v)))) (K .none_ (s.put id (.map kn' ag' (setKV k l kv))))
      | _, _, _ => False)
    | _ => False
  | .lookup z kn ag ok => match xs with
    | [.mp id, key] => (match look s.heap id, keyOf kn key with
      | some (.map kn' ag' kv), some k => chk (Nat.beq kn kn' && (bB ag ag' && (keyLen kn k && (z.all CV.scalar && (ag || Nat.beq z.length 1))))) ((∀ l, findKV k kv = some l → gotV ag ok l true fun v => K v s) ∧ (findKV k kv = none → gotV ag ok z false fun v => K v s))
      | _, _ => False)
    | _ => False
  | .buildOwn e k => match rowsL k xs with
    | some es => K (.osl s.nx) (s.new (.row e k es))
    | none => False
  | .nilOwn e k => K (.osl s.nx) (s.new (.row e k []))
  | .sliceF k lo hi => match xs with
    | .osl id :: r => (match look s.heap id with
      | some (.row _ k' es) => (match sliceB es.length lo hi r with
        | some (l, h) => chk (Nat.beq k' k) ((0 ≤ l ∧ l ≤ h ∧ h ≤ es.length) ∧ K (.c (.sl k ((es.take h.toNat).drop l.toNat))) (s.put id .dead))
        | none => False)
      | _ => False)
    | _ => False
  | .callm f => match xs with
    | .osl id :: r => (match look s.heap id with
      | some (.row e k es) => ∃ M : MSpec, HoldsM P f M ∧ ∃ x : M.X, M.pre x ∧ (M.e = e ∧ M.k = k) ∧ M.rows x = es ∧ leVs (views ((id, .dead) :: s.heap) r) (M.args x) ∧ ∀ ys, M.post x ys → K (.tup []) (s.put id (.row e k ys))
      | _ => False)
    | _ => False
  | .isnil neq => match xs with
    | [.c .nil] => K (.c (.bool (!neq))) s
    | [.c (.sl _ es)] => (es = [] → K (.c (.bool (!neq))) s) ∧ K (.c (.bool neq)) s
    | [.osl id] => (match look s.heap id with
      | some (.row _ _ es) => (es = [] → K (.c (.bool (!neq))) s) ∧ K (.c (.bool neq)) s
      | _ => False)
    | _ => False
  | .callo f => callO P f s.heap xs fun r obs => norm (shift s.nx r) fun r' => K r' ({ s with heap := kills xs s.heap }.news obs)
  | _ => False

/-! ### texts -/
structure Opn where
  dst : Option Nat
  op : IOp
  args : List Operand
  guard : Option (Nat × Bool)

inductive IC where
  | skip | ret
  | ops (l : List Opn) (draw : Bool)
  | seq (a b : IC)
  | cond (c : Operand) (a b : IC)
  | block (id : Nat) (a : IC)
  | loop (a : IC)
  | exit (id : Nat)
  | sealc (t : Nat)

def constCs : List Value → List SV
  | [] => []
  | .int k n :: r => .c (.int k n) :: constCs r
  | .bool b :: r => .c (.bool b) :: constCs r
  | .slice none 0 0 :: r => .c .nil :: constCs r
  | _ :: r => .none_ :: constCs r
def constV : Value → SV
  | .int k n => .c (.int k n)
  | .bool b => .c (.bool b)
  | .slice none 0 0 => .c .nil
  | _ => .none_
def evalO (env : List (Nat × SV)) : Operand → Option SV
  | .tmp t => look env t
  | .const v => some (constV v)
  | .func f => some (.fn f [])
  | .global _ => none
def evalL (env : List (Nat × SV)) : List Operand → Option (List SV)
  | [] => some []
  | x :: r => match evalO env x, evalL env r with
    | some v, some l => some (v :: l)
    | _, _ => none

def IOp.eff : IOp → Bool
  | .alloc _ | .box | .store _ | .append _ _ _ | .mksl _ _ _ _ | .mkmap _ _ | .mapset _ _ | .lookup _ _ _ _ | .buildOwn _ _ | .nilOwn _ _ | .sliceF _ _ _ | .isnil _ | .callm _ | .callo _ => true
  | _ => false

def setK (s : St) (d : Option Nat) (v : SV) (K : St → Prop) : Prop :=
  match d with
  | none => K s
  | some t => match s with
    | ⟨e, h, n⟩ => K ⟨(t, v) :: e, h, n⟩
theorem setK_eq (s : St) (d : Option Nat) (v : SV) (K : St → Prop) : setK s d v K = K (s.set d v) := by
  cases d <;> rfl
def opV (P : Program) (o : Opn) (s : St) (K : St → Prop) : Prop :=
  match evalL s.env o.args with
  | none => False
  | some xs => match o.op.eff with
    | true => eop P o.op s xs fun v s' => setK s' o.dst v K
    | false => pop P o.op s.heap xs fun v => setK s o.dst v K

def opsV (P : Program) : List Opn → (St → Prop) → St → Prop
  | [], K, s => K s
  | o :: r, K, s => match o.guard with
    | none => opV P o s (opsV P r K)
    | some (t, b) => match look s.env t with
      | some (.c (.bool true)) => (match b with
        | true => opV P o s (opsV P r K)
        | false => setK s o.dst .und (opsV P r K))
      | some (.c (.bool false)) => (match b with
        | true => setK s o.dst .und (opsV P r K)
        | false => opV P o s (opsV P r K))
      | some .und => setK s o.dst .und (opsV P r K)
      | _ => False

inductive Ex where
  | normal | exit (id : Nat) | ret

def bnd1 (nx : Nat) : SV → Bool
  | .osl id | .bp id _ | .ep id _ _ _ | .mp id => Nat.blt id nx
  | .agg cs | .tup cs | .fn _ cs => bndL nx cs
  | _ => true
where bndL (nx : Nat) : List SV → Bool
  | [] => true
  | s :: r => bnd1 nx s && bndL nx r
def ren (σ : List (Nat × Nat)) (id : Nat) : Nat := (look σ id).getD id
def renV (σ : List (Nat × Nat)) : SV → SV
  | .osl id => .osl (ren σ id)
  | .bp id j => .bp (ren σ id) j
  | .ep id k i j => .ep (ren σ id) k i j
  | .mp id => .mp (ren σ id)
  | .agg cs => .agg (renL σ cs)
  | .tup cs => .tup (renL σ cs)
  | .fn f cs => .fn f (renL σ cs)
  | s => s
where renL (σ : List (Nat × Nat)) : List SV → List SV
  | [] => []
  | s :: r => renV σ s :: renL σ r
def renO (σ : List (Nat × Nat)) : Ob → Ob
  | .box cs => .box (renV.renL σ cs)
  | o => o
def bndO (nx : Nat) : Ob → Bool
  | .box cs => bnd1.bndL nx cs
  | _ => true
/-- One state is met by another: what the second says holds where the first does, its ids renamed. -/
def meetE (σ : List (Nat × Nat)) (s : St) (nx : Nat) : List (Nat × SV) → Prop
  | [] => True
  | (t, v) :: r => (look s.env t = some (renV σ v) ∧ bnd1 nx v = true) ∧ meetE σ s nx r
def meetH (σ : List (Nat × Nat)) (s : St) (nx : Nat) : List (Nat × Ob) → Prop
  | [] => True
  | (id, o) :: r => (look s.heap (ren σ id) = some (renO σ o) ∧ Nat.blt id nx = true ∧ bndO nx o = true) ∧ meetH σ s nx r
def nodupB : List Nat → Bool
  | [] => true
  | x :: r => !(r.elem x) && nodupB r
def Meets (s t : St) : Prop := ∃ σ, meetE σ s t.nx t.env ∧ meetH σ s t.nx t.heap ∧ nodupB (t.heap.map fun p => ren σ p.1) = true ∧ nodupB (t.heap.map fun p => p.1) = true

/-- A row of the call's own that is written no more becomes a closed value wherever it is named. -/
def seal1 (id k : Nat) (es : List (List CV)) : SV → SV
  | .osl i => match Nat.beq i id with
    | true => .c (.sl k es)
    | false => .osl i
  | s => s
def sealL (id k : Nat) (es : List (List CV)) : List SV → List SV
  | [] => []
  | s :: r => seal1 id k es s :: sealL id k es r
def sealV (id k : Nat) (es : List (List CV)) : SV → SV
  | .agg cs => .agg (sealL id k es cs)
  | s => seal1 id k es s
def sealO (id k : Nat) (es : List (List CV)) : Ob → Ob
  | .box cs => .box (sealL id k es cs)
  | o => o
def sealE (id k : Nat) (es : List (List CV)) : List (Nat × SV) → List (Nat × SV)
  | [] => []
  | (t, v) :: r => (t, sealV id k es v) :: sealE id k es r
def sealH (id k : Nat) (es : List (List CV)) : List (Nat × Ob) → List (Nat × Ob)
  | [] => []
  | (t, v) :: r => (t, sealO id k es v) :: sealH id k es r

def vc (P : Program) : IC → (Ex → St → Prop) → St → Prop
  | .skip, Q, s => Q .normal s
  | .ret, Q, s => Q .ret s
  | .ops l _, Q, s => opsV P l (Q .normal) s
  | .seq a b, Q, s => vc P a (fun e s' => match e with
    | .normal => vc P b Q s'
    | .exit i => Q (.exit i) s'
    | .ret => Q .ret s') s
  | .cond c a b, Q, s => match evalO s.env c with
    | some (.c (.bool true)) => vc P a Q s
    | some (.c (.bool false)) => vc P b Q s
    | _ => False
  | .block id a, Q, s => vc P a (fun e s' => match e with
    | .normal => Q .normal s'
    | .exit i => (match Nat.beq i id with
      | true => Q .normal s'
      | false => Q (.exit i) s')
    | .ret => Q .ret s') s
  | .loop a, Q, s => ∃ (X : Type) (I : X → St) (inv : X → Prop) (μ : X → Nat), (∃ x, inv x ∧ Meets s (I x)) ∧ ∀ x, inv x → vc P a (fun e s' => match e with
    | .normal => ∃ x', (inv x' ∧ μ x' < μ x) ∧ Meets s' (I x')
    | .exit i => Q (.exit i) s'
    | .ret => Q .ret s') (I x)
  | .exit id, Q, s => Q (.exit id) s
  | .sealc t, Q, s => match look s.env t with
    | some (.osl id) => (match look s.heap id with
      | some (.row _ k es) => Q .normal ⟨sealE id k es s.env, (id, .dead) :: sealH id k es s.heap, s.nx⟩
      | _ => False)
    | _ => False

inductive RV where
  | tmp (t : Nat)
  | cell (t k : Nat) (ag : Bool)
structure IFn where
  n : Nat
  res : List RV
  body : IC

def pos (σ : List Nat) (id : Nat) : Option Nat := σ.findIdx? (Nat.beq id)
def out0 (σ : List Nat) (H : List (Nat × Ob)) : SV → SV
  | .osl id => match pos σ id with
    | some p => .osl p
    | none => view0 H (.osl id)
  | .c v => .c v
  | .rp cs => .rp cs
  | .fn f [] => .fn f []
  | _ => .none_
def outL (σ : List Nat) (H : List (Nat × Ob)) : List SV → List SV
  | [] => []
  | s :: r => out0 σ H s :: outL σ H r
def outV (σ : List Nat) (H : List (Nat × Ob)) : SV → SV
  | .agg cs => match (outL σ H cs).all SV.cell with
    | true => .agg (outL σ H cs)
    | false => .none_
  | s => out0 σ H s
def resOf (s : St) : RV → Option SV
  | .tmp t => look s.env t
  | .cell t k ag => match look s.env t with
    | some (.bp id j) => match look s.heap id with
      | some (.box cs) => match ag with
        | true => (match Nat.ble (j + k) cs.length with
          | true => some (.agg ((cs.drop j).take k))
          | false => none)
        | false => cs[j]?
      | _ => none
    | _ => none
def resL (s : St) : List RV → Option (List SV)
  | [] => some []
  | x :: r => match resOf s x, resL s r with
    | some v, some l => some (v :: l)
    | _, _ => none
def outs (σ : List Nat) (H : List (Nat × Ob)) : List SV → List SV
  | [] => []
  | s :: r => outV σ H s :: outs σ H r
/-- The results, as a caller gets them. -/
def leR : List SV → SV → Prop
  | [v], r => leV v r
  | vs, .tup rs => leVs vs rs
  | _, _ => False
def obsOk (H : List (Nat × Ob)) : List Nat → List Ob → Prop
  | [], [] => True
  | id :: r, o :: t => (look H id = some o ∧ ∃ e k es, o = .row e k es) ∧ obsOk H r t
  | _, _ => False
def finV (res : List RV) (s : St) (r : SV) (obs : List Ob) : Prop :=
  ∃ σ, nodupB σ = true ∧ obsOk s.heap σ obs ∧ match resL s res with
    | some vs => leR (outs σ s.heap vs) r
    | none => False

def argEnv (k : Nat) : List SV → List (Nat × SV)
  | [] => []
  | v :: r => (k, v) :: argEnv (k + 1) r
def fnV (P : Program) (f : IFn) (S : Spec) : Prop :=
  ∀ x, S.pre x → vc P f.body (fun e s => match e with
    | .normal => finV f.res s (S.res x) (S.obs x)
    | .exit _ => False
    | .ret => finV f.res s (S.res x) (S.obs x)) ⟨argEnv 0 (S.args x), [], 0⟩

end Go.Proofs.Ytfghmpfiemmbgaa
