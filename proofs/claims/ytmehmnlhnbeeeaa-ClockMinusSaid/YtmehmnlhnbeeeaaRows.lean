/-
  No cell of these rows narrows 'for every input' (looked for: loops, veiled, ifaces, maps, wideKeys, modest, calm, conditions, laid).
  DERIVED. THE GIVEN ROWS OF THIS SEAT. 8 by the template 'for every input the law returns true; each argument reads behind the call as it read before'; 0 by the template 'total and deterministic' (their statements: YtmehmnlhnbeeeaaTotals.lean).
  GIVEN WITH THE SEED: the statements are not yours to turn. If you find one false, say at which input.
  Laid BY PROGRAM, IN A SANDBOX (cutbox-rows.mjs): the forced cells as the released guide's own fill.sh prints them over the translation 8534dfc4156c92e9… (all of the seat's roots in one cut). By AI agents, Wed Nov 11 2026. No macro, syntax, notation, axiom, sorry.
-/
import Derived.Test.YtmehmnlhnbeeeaaChecked
import GoSem.Claim
import GoSem.ClaimJoined
import GoSem.ClaimMapViews
import Derived.JoinedTies
import Derived.KernelRfl
namespace Go.Proofs.Ytmehmnlhnbeeeaa
/- THE CELL 'sum', in the pinned program and in every row, IS THE sha256 OF THE DUMP (.gsa) THAT YtmehmnlhnbeeeaaProg.lean LOADS. Nothing in Lean hashes anything: it is a label: what it is worth is what the hold of that sum in a sandbox is worth. -/
noncomputable def Try.pinned : Pinned := { name := "ytmehmnlhnbeeeaa", sum := "8534dfc4156c92e910a5efb4eb0e755eebf1557986a7bfbd3c052cdc31978264", checked := Try.checked }
namespace Rows
def none {H : Type} : Left H := { results := [], args := [] }

/-- 'skiarealaw02.ClockDays': WHATEVER THE INPUT: true; the input reads as it did. -/
def clockDaysSpec : ChangeSpec := { name := "clockDays", fn := fun _ => fun
  | [d] => { results := [.lit (.bool true)], args := [d] }
  | _ => none }
def clockDaysRow : OpenClaim := { program := "ytmehmnlhnbeeeaa", sum := "8534dfc4156c92e910a5efb4eb0e755eebf1557986a7bfbd3c052cdc31978264", func := "skiarea/skiarealaw02.ClockDays", spec := "clockDays", unfollowed := true, recurses := true, apart := false }
def ClockDaysSaid : Prop := clockDaysRow.holds Try.pinned (OpenSpec.ofChange clockDaysSpec)

/-- ITS FALSE NEIGHBOUR: 'it returns false'. Refute it at one input. -/
def clockDaysWrong : ChangeSpec := { name := "clockDays", fn := fun _ => fun
  | [d] => { results := [.lit (.bool false)], args := [d] }
  | _ => none }
def ClockDaysWrongFalsely : Prop := clockDaysRow.holds Try.pinned (OpenSpec.ofChange clockDaysWrong)

/-- 'skiarealaw02.ClockHours': WHATEVER THE INPUT: true; the input reads as it did. -/
def clockHoursSpec : ChangeSpec := { name := "clockHours", fn := fun _ => fun
  | [d1, d2] => { results := [.lit (.bool true)], args := [d1, d2] }
  | _ => none }
def clockHoursRow : OpenClaim := { program := "ytmehmnlhnbeeeaa", sum := "8534dfc4156c92e910a5efb4eb0e755eebf1557986a7bfbd3c052cdc31978264", func := "skiarea/skiarealaw02.ClockHours", spec := "clockHours", unfollowed := true, recurses := true, apart := false }
def ClockHoursSaid : Prop := clockHoursRow.holds Try.pinned (OpenSpec.ofChange clockHoursSpec)

/-- ITS FALSE NEIGHBOUR: 'it returns false'. Refute it at one input. -/
def clockHoursWrong : ChangeSpec := { name := "clockHours", fn := fun _ => fun
  | [d1, d2] => { results := [.lit (.bool false)], args := [d1, d2] }
  | _ => none }
def ClockHoursWrongFalsely : Prop := clockHoursRow.holds Try.pinned (OpenSpec.ofChange clockHoursWrong)

/-- 'skiarealaw02.ClockNexts': WHATEVER THE INPUT: true; the input reads as it did. -/
def clockNextsSpec : ChangeSpec := { name := "clockNexts", fn := fun _ => fun
  | [d1, d2] => { results := [.lit (.bool true)], args := [d1, d2] }
  | _ => none }
def clockNextsRow : OpenClaim := { program := "ytmehmnlhnbeeeaa", sum := "8534dfc4156c92e910a5efb4eb0e755eebf1557986a7bfbd3c052cdc31978264", func := "skiarea/skiarealaw02.ClockNexts", spec := "clockNexts", unfollowed := true, recurses := true, apart := false }
def ClockNextsSaid : Prop := clockNextsRow.holds Try.pinned (OpenSpec.ofChange clockNextsSpec)

/-- ITS FALSE NEIGHBOUR: 'it returns false'. Refute it at one input. -/
def clockNextsWrong : ChangeSpec := { name := "clockNexts", fn := fun _ => fun
  | [d1, d2] => { results := [.lit (.bool false)], args := [d1, d2] }
  | _ => none }
def ClockNextsWrongFalsely : Prop := clockNextsRow.holds Try.pinned (OpenSpec.ofChange clockNextsWrong)

/-- 'skiarealaw02.ClockDifference': WHATEVER THE INPUT: true; the input reads as it did. -/
def clockDifferenceSpec : ChangeSpec := { name := "clockDifference", fn := fun _ => fun
  | [d1, d2] => { results := [.lit (.bool true)], args := [d1, d2] }
  | _ => none }
def clockDifferenceRow : OpenClaim := { program := "ytmehmnlhnbeeeaa", sum := "8534dfc4156c92e910a5efb4eb0e755eebf1557986a7bfbd3c052cdc31978264", func := "skiarea/skiarealaw02.ClockDifference", spec := "clockDifference", unfollowed := true, recurses := true, apart := false }
def ClockDifferenceSaid : Prop := clockDifferenceRow.holds Try.pinned (OpenSpec.ofChange clockDifferenceSpec)

/-- ITS FALSE NEIGHBOUR: 'it returns false'. Refute it at one input. -/
def clockDifferenceWrong : ChangeSpec := { name := "clockDifference", fn := fun _ => fun
  | [d1, d2] => { results := [.lit (.bool false)], args := [d1, d2] }
  | _ => none }
def ClockDifferenceWrongFalsely : Prop := clockDifferenceRow.holds Try.pinned (OpenSpec.ofChange clockDifferenceWrong)

/-- 'skiarealaw02.ClockLengths': WHATEVER THE INPUT: true; the input reads as it did. -/
def clockLengthsSpec : ChangeSpec := { name := "clockLengths", fn := fun _ => fun
  | [d1, d2] => { results := [.lit (.bool true)], args := [d1, d2] }
  | _ => none }
def clockLengthsRow : OpenClaim := { program := "ytmehmnlhnbeeeaa", sum := "8534dfc4156c92e910a5efb4eb0e755eebf1557986a7bfbd3c052cdc31978264", func := "skiarea/skiarealaw02.ClockLengths", spec := "clockLengths", unfollowed := true, recurses := true, apart := false }
def ClockLengthsSaid : Prop := clockLengthsRow.holds Try.pinned (OpenSpec.ofChange clockLengthsSpec)

/-- ITS FALSE NEIGHBOUR: 'it returns false'. Refute it at one input. -/
def clockLengthsWrong : ChangeSpec := { name := "clockLengths", fn := fun _ => fun
  | [d1, d2] => { results := [.lit (.bool false)], args := [d1, d2] }
  | _ => none }
def ClockLengthsWrongFalsely : Prop := clockLengthsRow.holds Try.pinned (OpenSpec.ofChange clockLengthsWrong)

/-- 'skiarealaw02.ClockFirst': WHATEVER THE INPUT: true; the input reads as it did. -/
def clockFirstSpec : ChangeSpec := { name := "clockFirst", fn := fun _ => fun
  | [d1, d2, d3] => { results := [.lit (.bool true)], args := [d1, d2, d3] }
  | _ => none }
def clockFirstRow : OpenClaim := { program := "ytmehmnlhnbeeeaa", sum := "8534dfc4156c92e910a5efb4eb0e755eebf1557986a7bfbd3c052cdc31978264", func := "skiarea/skiarealaw02.ClockFirst", spec := "clockFirst", unfollowed := true, recurses := true, apart := false }
def ClockFirstSaid : Prop := clockFirstRow.holds Try.pinned (OpenSpec.ofChange clockFirstSpec)

/-- ITS FALSE NEIGHBOUR: 'it returns false'. Refute it at one input. -/
def clockFirstWrong : ChangeSpec := { name := "clockFirst", fn := fun _ => fun
  | [d1, d2, d3] => { results := [.lit (.bool false)], args := [d1, d2, d3] }
  | _ => none }
def ClockFirstWrongFalsely : Prop := clockFirstRow.holds Try.pinned (OpenSpec.ofChange clockFirstWrong)

/-- 'skiarealaw02.ClockSets': WHATEVER THE INPUT: true; the input reads as it did. -/
def clockSetsSpec : ChangeSpec := { name := "clockSets", fn := fun _ => fun
  | [d1, d2] => { results := [.lit (.bool true)], args := [d1, d2] }
  | _ => none }
def clockSetsRow : OpenClaim := { program := "ytmehmnlhnbeeeaa", sum := "8534dfc4156c92e910a5efb4eb0e755eebf1557986a7bfbd3c052cdc31978264", func := "skiarea/skiarealaw02.ClockSets", spec := "clockSets", unfollowed := true, recurses := true, apart := false }
def ClockSetsSaid : Prop := clockSetsRow.holds Try.pinned (OpenSpec.ofChange clockSetsSpec)

/-- ITS FALSE NEIGHBOUR: 'it returns false'. Refute it at one input. -/
def clockSetsWrong : ChangeSpec := { name := "clockSets", fn := fun _ => fun
  | [d1, d2] => { results := [.lit (.bool false)], args := [d1, d2] }
  | _ => none }
def ClockSetsWrongFalsely : Prop := clockSetsRow.holds Try.pinned (OpenSpec.ofChange clockSetsWrong)

/-- 'skiarealaw02.ClockMinus': WHATEVER THE INPUT: true; the input reads as it did. -/
def clockMinusSpec : ChangeSpec := { name := "clockMinus", fn := fun _ => fun
  | [d1, d2, d3] => { results := [.lit (.bool true)], args := [d1, d2, d3] }
  | _ => none }
def clockMinusRow : OpenClaim := { program := "ytmehmnlhnbeeeaa", sum := "8534dfc4156c92e910a5efb4eb0e755eebf1557986a7bfbd3c052cdc31978264", func := "skiarea/skiarealaw02.ClockMinus", spec := "clockMinus", unfollowed := true, recurses := true, apart := false }
def ClockMinusSaid : Prop := clockMinusRow.holds Try.pinned (OpenSpec.ofChange clockMinusSpec)

/-- ITS FALSE NEIGHBOUR: 'it returns false'. Refute it at one input. -/
def clockMinusWrong : ChangeSpec := { name := "clockMinus", fn := fun _ => fun
  | [d1, d2, d3] => { results := [.lit (.bool false)], args := [d1, d2, d3] }
  | _ => none }
def ClockMinusWrongFalsely : Prop := clockMinusRow.holds Try.pinned (OpenSpec.ofChange clockMinusWrong)

/- THE SECOND FORM. 'bulk': how many values and letters a reading holds, each counted each time it is reached (what is shared counts as often as it is met; a slice's spare places count too). A statement '..UptoSaid' is the law's where the arguments, and the package variables that the reading takes, are together of bulk at most 1048576: NARROWER than '..Said'. Prove '..Said' where nothing that the law and all that it calls make is longer than what came in: it says more and counts as full. Else prove '..UptoSaid'. A law counts once. -/
mutual
def uptoBulk {H : Type} : DataW H → Nat
  | .lit (.string bytes) => bytes.length + 1
  | .lit _ => 1
  | .nil => 1
  | .ptr d => uptoBulk d + 1
  | .slice elems spare => uptoBulkAll elems + uptoBulkAll spare + 1
  | .agg parts => uptoBulkAll parts + 1
  | .iface _ d => uptoBulk d + 1
  | .map entries => uptoBulkEntries entries + 1
  | .held _ => 1
def uptoBulkAll {H : Type} : List (DataW H) → Nat
  | [] => 0
  | d :: r => uptoBulk d + uptoBulkAll r
def uptoBulkEntries {H : Type} : List (Lit × DataW H) → Nat
  | [] => 0
  | x :: r => uptoBulkEntry x + uptoBulkEntries r
def uptoBulkEntry {H : Type} : Lit × DataW H → Nat
  | (.string bytes, d) => bytes.length + uptoBulk d + 1
  | (_, d) => uptoBulk d + 1
 end
def uptoSmall : (H : Type) → List (DataW H) → Bool := fun _ ds => decide (uptoBulkAll ds ≤ 1048576)
def OpenSpec.upto (s : _root_.Go.ChangeSpec) : _root_.Go.OpenSpec := { _root_.Go.OpenSpec.ofChange s with cond := some uptoSmall }

/-- 'skiarealaw02.ClockDays', WHERE WHAT IT READS IS OF BULK AT MOST 1048576: true; the input reads as it did. -/
def clockDaysUptoRow : OpenClaim := { program := "ytmehmnlhnbeeeaa", sum := "8534dfc4156c92e910a5efb4eb0e755eebf1557986a7bfbd3c052cdc31978264", func := "skiarea/skiarealaw02.ClockDays", spec := "clockDays", unfollowed := true, recurses := true, apart := false, narrowed := true }
def ClockDaysUptoSaid : Prop := clockDaysUptoRow.holds Try.pinned (OpenSpec.upto clockDaysSpec)

/-- 'skiarealaw02.ClockHours', WHERE WHAT IT READS IS OF BULK AT MOST 1048576: true; the input reads as it did. -/
def clockHoursUptoRow : OpenClaim := { program := "ytmehmnlhnbeeeaa", sum := "8534dfc4156c92e910a5efb4eb0e755eebf1557986a7bfbd3c052cdc31978264", func := "skiarea/skiarealaw02.ClockHours", spec := "clockHours", unfollowed := true, recurses := true, apart := false, narrowed := true }
def ClockHoursUptoSaid : Prop := clockHoursUptoRow.holds Try.pinned (OpenSpec.upto clockHoursSpec)

/-- 'skiarealaw02.ClockNexts', WHERE WHAT IT READS IS OF BULK AT MOST 1048576: true; the input reads as it did. -/
def clockNextsUptoRow : OpenClaim := { program := "ytmehmnlhnbeeeaa", sum := "8534dfc4156c92e910a5efb4eb0e755eebf1557986a7bfbd3c052cdc31978264", func := "skiarea/skiarealaw02.ClockNexts", spec := "clockNexts", unfollowed := true, recurses := true, apart := false, narrowed := true }
def ClockNextsUptoSaid : Prop := clockNextsUptoRow.holds Try.pinned (OpenSpec.upto clockNextsSpec)

/-- 'skiarealaw02.ClockDifference', WHERE WHAT IT READS IS OF BULK AT MOST 1048576: true; the input reads as it did. -/
def clockDifferenceUptoRow : OpenClaim := { program := "ytmehmnlhnbeeeaa", sum := "8534dfc4156c92e910a5efb4eb0e755eebf1557986a7bfbd3c052cdc31978264", func := "skiarea/skiarealaw02.ClockDifference", spec := "clockDifference", unfollowed := true, recurses := true, apart := false, narrowed := true }
def ClockDifferenceUptoSaid : Prop := clockDifferenceUptoRow.holds Try.pinned (OpenSpec.upto clockDifferenceSpec)

/-- 'skiarealaw02.ClockLengths', WHERE WHAT IT READS IS OF BULK AT MOST 1048576: true; the input reads as it did. -/
def clockLengthsUptoRow : OpenClaim := { program := "ytmehmnlhnbeeeaa", sum := "8534dfc4156c92e910a5efb4eb0e755eebf1557986a7bfbd3c052cdc31978264", func := "skiarea/skiarealaw02.ClockLengths", spec := "clockLengths", unfollowed := true, recurses := true, apart := false, narrowed := true }
def ClockLengthsUptoSaid : Prop := clockLengthsUptoRow.holds Try.pinned (OpenSpec.upto clockLengthsSpec)

/-- 'skiarealaw02.ClockFirst', WHERE WHAT IT READS IS OF BULK AT MOST 1048576: true; the input reads as it did. -/
def clockFirstUptoRow : OpenClaim := { program := "ytmehmnlhnbeeeaa", sum := "8534dfc4156c92e910a5efb4eb0e755eebf1557986a7bfbd3c052cdc31978264", func := "skiarea/skiarealaw02.ClockFirst", spec := "clockFirst", unfollowed := true, recurses := true, apart := false, narrowed := true }
def ClockFirstUptoSaid : Prop := clockFirstUptoRow.holds Try.pinned (OpenSpec.upto clockFirstSpec)

/-- 'skiarealaw02.ClockSets', WHERE WHAT IT READS IS OF BULK AT MOST 1048576: true; the input reads as it did. -/
def clockSetsUptoRow : OpenClaim := { program := "ytmehmnlhnbeeeaa", sum := "8534dfc4156c92e910a5efb4eb0e755eebf1557986a7bfbd3c052cdc31978264", func := "skiarea/skiarealaw02.ClockSets", spec := "clockSets", unfollowed := true, recurses := true, apart := false, narrowed := true }
def ClockSetsUptoSaid : Prop := clockSetsUptoRow.holds Try.pinned (OpenSpec.upto clockSetsSpec)

/-- 'skiarealaw02.ClockMinus', WHERE WHAT IT READS IS OF BULK AT MOST 1048576: true; the input reads as it did. -/
def clockMinusUptoRow : OpenClaim := { program := "ytmehmnlhnbeeeaa", sum := "8534dfc4156c92e910a5efb4eb0e755eebf1557986a7bfbd3c052cdc31978264", func := "skiarea/skiarealaw02.ClockMinus", spec := "clockMinus", unfollowed := true, recurses := true, apart := false, narrowed := true }
def ClockMinusUptoSaid : Prop := clockMinusUptoRow.holds Try.pinned (OpenSpec.upto clockMinusSpec)

end Rows
end Go.Proofs.Ytmehmnlhnbeeeaa
