/- From the program's text to the abstract walk's. No program in sight. -/
import Derived.Test.YtfghmpfiemmbgaaA2
namespace Go.Proofs.Ytfghmpfiemmbgaa
open Go.RowKit

structure Opts where
  wraps : List Nat := []
  owns : List (Nat × Nat) := []
  gives : List Nat := []
  frz : List Nat := []
  muts : List Nat := []
  seals : List (Nat × Nat) := []

def aggD : TypeDesc → Bool
  | .struct _ | .array _ _ => true
  | _ => false
def constC (v : Value) : CV :=
  match v with
  | .int k n => .int k n
  | .bool b => .bool b
  | .slice none 0 0 => .nil
  | v => .raw v
def zerosOf (P : Program) (t : TypeId) : Option (List CV) :=
  match P.info? t with
  | some i => match i.zero with
    | some z => if z.cells.toList.all (·.oneCell') then some (z.cells.toList.map constC) else none
    | none => none
  | none => none
def sizeOfT (P : Program) (t : TypeId) : Option Nat := (P.info? t).map (·.size)
def hasT (d : Option Nat) (l : List Nat) : Bool :=
  match d with
  | some t => l.elem t
  | none => false
def findT (d : Option Nat) (l : List (Nat × Nat)) : Option Nat :=
  match d with
  | some t => look l t
  | none => none
def inOrder : Nat → List (Nat × Operand) → Bool
  | _, [] => true
  | k, p :: r => Nat.beq p.1 k && inOrder (k + 1) r
def partsOf (places : List (Nat × Nat)) : List (Nat × Operand) → Option (List (Nat × Nat))
  | [] => some []
  | p :: r => match places[p.1]?, partsOf places r with
    | some q, some l => some (q :: l)
    | _, _ => none
def isNil : Operand → Bool
  | .const (.slice none 0 0) => true
  | _ => false
def isCmp : BinOp → Bool
  | .eql | .neq | .lss | .leq | .gtr | .geq => true
  | _ => false

/-- The cells of a type whose values are equal where their cells are. -/
def eqT (P : Program) : Nat → TypeId → Option (List Bool)
  | 0, _ => none
  | d + 1, t => match P.underlying t with
    | some (.int _) => some [false]
    | some .bool => some [true]
    | some (.struct fs) => if P.stoodInHeld t then none else eqFs (eqT P d) (fun u => (P.underlying u).map aggD) (sizeOfT P) 0 fs.toList
    | _ => none
where eqFs (g : TypeId → Option (List Bool)) (ag : TypeId → Option Bool) (sz : TypeId → Option Nat) : Nat → List Field → Option (List Bool)
  | _, [] => some []
  | n, f :: r => match g f.type, ag f.type, sz f.type with
    | some l, some b, some k' => if f.name ≠ "_" ∧ f.offset = n ∧ l.length = k' ∧ 0 < k' ∧ (b = false → k' = 1) then (match eqFs g ag sz (n + l.length) r with
      | some m => some (l ++ m)
      | none => none) else none
    | _, _, _ => none

def lowBin (P : Program) (q : Opts) (d : Option Nat) (o : BinOp) (t : TypeId) (x y : Operand) : Option (IOp × List Operand) :=
  match P.underlying t with
  | some (.int k) => if isCmp o then some (.cmp o, [x, y]) else some (.bin o k (hasT d q.wraps), [x, y])
  | some .bool => (match o with
    | .eql => some (.eqb false, [x, y])
    | .neq => some (.eqb true, [x, y])
    | _ => none)
  | some (.struct _) => (match eqT P 8 t with
    | some k => if P.eqGuardType P.depth t then none else (match o with
      | .eql => some (.eqa k false, [x, y])
      | .neq => some (.eqa k true, [x, y])
      | _ => none)
    | none => none)
  | _ => none
def lowBinN (P : Program) (q : Opts) (d : Option Nat) (o : BinOp) (t : TypeId) (x y : Operand) : Option (IOp × List Operand) :=
  match P.underlying t, isNil y with
  | some (.slice _), true => (match o with
    | .eql => some (.isnil false, [x])
    | .neq => some (.isnil true, [x])
    | _ => none)
  | _, _ => lowBin P q d o t x y
def lowBuiltin (P : Program) (b : Builtin) (args : List Operand) (ts : List TypeId) : Option (IOp × List Operand) :=
  match b with
  | .len => (match args, ts with
    | [x], [t] => (match P.underlying t with
      | some (.slice _) => some (.len, [x])
      | _ => none)
    | _, _ => none)
  | .min => (match args with
    | [x, y] => some (.min, [x, y])
    | _ => none)
  | .max => (match args with
    | [x, y] => some (.max, [x, y])
    | _ => none)
  | .append => (match args, ts with
    | [x, y], [t, t'] => if t = t' then (match P.underlying t with
      | some (.slice e) => (match P.info? e with
        | some i => (match i.zero with
          | some z => if z.cells.size = i.size ∧ 0 < i.size then some (.append e i.size i.bytes, [x, y]) else none
          | none => none)
        | none => none)
      | _ => none) else none
    | _, _ => none)
  | _ => none
def lowCall (P : Program) (q : Opts) (d : Option Nat) (c : Call) : Option (IOp × List Operand) :=
  match c.callee with
  | .builtin b => lowBuiltin P b c.args.toList c.argTypes.toList
  | .value (.func f) => if callable P f then (if hasT d q.muts then some (.callm f, c.args.toList) else if hasT d q.gives then some (.callo f, c.args.toList) else some (.call f, c.args.toList)) else none
  | .value (.tmp t) => some (.callv, .tmp t :: c.args.toList)
  | _ => none

/-- The key's type: 0 a number, n a struct of n numbers. -/
def keyFs (P : Program) : Nat → List Field → Bool
  | _, [] => true
  | n, f :: r => (match P.underlying f.type with
    | some (.int .i64) => true
    | _ => false) && (decide (f.name ≠ "_") && (Nat.beq f.offset n && keyFs P (n + 1) r))
def keyT (P : Program) (K : TypeId) : Option Nat :=
  match P.underlying K with
  | some (.int .i64) => some 0
  | some (.struct fs) => match eqT P 8 K with
    | some l => if l.all (fun b => !b) && (Nat.beq l.length fs.size && (Nat.blt 0 fs.size && (keyFs P 0 fs.toList && !P.eqGuardType P.depth K))) then some fs.size else none
    | none => none
  | _ => none

/-- A map's type: its key, and whether it holds structs; and the zero of what it holds. -/
def mapT (P : Program) (t : TypeId) : Option (Nat × Bool) :=
  match P.underlying t with
  | some (.map K E) => match keyT P K, P.underlying E with
    | some kn, some u => some (kn, aggD u)
    | _, _ => none
  | _ => none
def elemZ (P : Program) (t : TypeId) : Option (List CV) :=
  match P.underlying t with
  | some (.map _ E) => match P.info? E, P.underlying E with
    | some i, some u => match i.zero with
      | some (.agg cs) => if aggD u then some (cs.toList.map constC) else none
      | some v => if aggD u then none else some [constC v]
      | none => none
    | _, _ => none
  | _ => none

def lowOp (P : Program) (q : Opts) (d : Option Nat) (op : Op) : Option (IOp × List Operand) :=
  match op with
  | .move x => some (.mov, [x])
  | .assign x => match isNil x, findT d q.owns with
    | true, some e => match sizeOfT P e with
      | some k => some (.nilOwn e k, [])
      | none => none
    | _, _ => some (.mov, [x])
  | .pick c a b => some (.pick, [c, a, b])
  | .alloc t => match zerosOf P t with
    | some z => some (.alloc z, [])
    | none => none
  | .box _ x => some (.box, [x])
  | .build t ps => match zerosOf P t, P.underlying t with
    | some z, some (.struct fs) => match fs.toList.mapM (fun f => (P.info? f.type).map fun i => (f.offset, i.size)) with
      | some places => match partsOf places ps.toList with
        | some l => some (.build z l, ps.toList.map (·.2))
        | none => none
      | none => none
    | _, _ => none
  | .buildSlice t n ps => match P.underlying t with
    | some (.slice e) => match P.info? e with
      | some i => match i.zero with
        | some z => if z.cells.size = i.size ∧ 0 < i.size ∧ n * i.size ≤ 16777216 ∧ n = ps.size ∧ inOrder 0 ps.toList then
            match findT d q.owns with
            | some _ => some (.buildOwn e i.size, ps.toList.map (·.2))
            | none => some (.buildSl e i.size, ps.toList.map (·.2))
          else none
        | none => none
      | none => none
    | _ => none
  | .load t x => match sizeOfT P t, P.underlying t with
    | some k, some u => if aggD u = false → k = 1 then some (.load k (aggD u), [x]) else none
    | _, _ => none
  | .store t a v => match sizeOfT P t with
    | some k => some (.store k, [a, v])
    | none => none
  | .nilCheck x => some (.nilchk, [x])
  | .binOp o t x y _ => lowBinN P q d o t x y
  | .unOp o t x => match o, P.underlying t with
    | .not, _ => some (.not, [x])
    | .neg, some (.int k) => some (.neg k, [x])
    | _, _ => none
  | .convert st dt x => match P.underlying st, P.underlying dt with
    | some _, some (.int k) => some (.conv k, [x])
    | _, _ => none
  | .makeFunc (.func f) first caps => if first.size = 0 then some (.fn f, caps.toList) else none
  | .makeSlice t l c => match P.underlying t with
    | some (.slice e) => match P.info? e, zerosOf P e with
      | some i, some z => if z.length = i.size ∧ 0 < i.size then some (.mksl e i.size i.bytes z, [l, c]) else none
      | _, _ => none
    | _ => none
  | .slice t x lo hi none => match P.underlying t with
    | some (.slice e) => match sizeOfT P e with
      | some k => if hasT d q.frz then some (.sliceF k lo.isSome hi.isSome, x :: lo.toList ++ hi.toList) else some (.slice k lo.isSome hi.isSome, x :: lo.toList ++ hi.toList)
      | none => none
    | _ => none
  | .fieldAddr t x f => match P.underlying t with
    | some (.struct fs) => match fs[f]? with
      | some fl => match sizeOfT P fl.type with
        | some (_ + 1) => some (.faddr fl.offset, [x])
        | _ => none
      | none => none
    | _ => none
  | .field t x f => match P.underlying t with
    | some (.struct fs) => match fs[f]? with
      | some fl => match sizeOfT P fl.type, P.underlying fl.type with
        | some k, some u => if aggD u = false → k = 1 then some (.field fl.offset k (aggD u), [x]) else none
        | _, _ => none
      | none => none
    | _ => none
  | .indexAddr t x i => match P.underlying t with
    | some (.slice e) => match sizeOfT P e with
      | some k => some (.idx k, [x, i])
      | none => none
    | _ => none
  | .extract x i => some (.extract i, [x])
  | .call c => lowCall P q d c
  | .makeMap t r => match mapT P t with
    | some (kn, ag) => some (.mkmap kn ag, r.toList)
    | none => none
  | .mapUpdate t m k v => match mapT P t with
    | some (kn, ag) => some (.mapset kn ag, [m, k, v])
    | none => none
  | .lookup t m k ok => match mapT P t, elemZ P t with
    | some (kn, ag), some z => some (.lookup z kn ag ok, [m, k])
    | _, _ => none
  | _ => none

def lowIO (P : Program) (q : Opts) (ops : Array Oper) (o : Oper) : Option Opn :=
  match lowOp P q o.dst o.op with
  | some (io, args) => match o.guard with
    | none => some ⟨o.dst, io, args, none⟩
    | some (j, b) => match ops[j]? with
      | some oj => match oj.dst with
        | some t => some ⟨o.dst, io, args, some (t, b)⟩
        | none => none
      | none => none
  | none => none
def lowIOs (P : Program) (q : Opts) (ops : Array Oper) : List Oper → Option (List Opn)
  | [] => some []
  | o :: r => match lowIO P q ops o, lowIOs P q ops r with
    | some x, some l => some (x :: l)
    | _, _ => none

def dstOk (n : Nat) : Option Nat → Bool
  | some t => Nat.blt t n
  | none => true
end Go.Proofs.Ytfghmpfiemmbgaa
