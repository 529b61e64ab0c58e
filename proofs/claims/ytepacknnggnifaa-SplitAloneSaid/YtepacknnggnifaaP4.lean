/- Sums within bounds: plain. No program in sight. -/
import Derived.Test.YtepacknnggnifaaP3
namespace Go.Proofs.Ytepacknnggnifaa
open Go.RowKit

structure Share where
  o : Int
  a : Int
  deriving DecidableEq
/-- s + n, if it is from -2^40 to 2^40. -/
def plusF (s n : Int) : Option Int := if 1099511627776 - s < n ∨ n < -1099511627776 - s then none else some (s + n)
def runO : Int → List Int → Option Int
  | s, [] => some s
  | s, x :: r => match plusF s x with
    | none => none
    | some t => runO t r
def optT : Option Int → SV
  | some v => .tup [.c (.int .i64 v), .c (.bool true)]
  | none => .tup [.c (.int .i64 0), .c (.bool false)]
/-- A sum and an error number. -/
def totT : Option Int → SV
  | some v => .tup [.c (.int .i64 v), .c (.int .i64 0)]
  | none => .tup [.c (.int .i64 0), .c (.int .i64 12)]
theorem plusF_bnd {s n t : Int} (h : plusF s n = some t) : -1099511627776 ≤ t ∧ t ≤ 1099511627776 := by
  unfold plusF at h
  split at h
  · cases h
  · cases h; omega
theorem runO_step {l : List Int} {k : Nat} {x s : Int} (h : l[k]? = some x) : runO s (l.drop k) = match plusF s x with
    | none => none
    | some t => runO t (l.drop (k + 1)) := by rw [drop_of h, runO]
theorem runO_end {l : List Int} {k : Nat} (h : ¬ k < l.length) (s : Int) : runO s (l.drop k) = some s := by rw [drop_end h]; rfl
end Go.Proofs.Ytepacknnggnifaa
