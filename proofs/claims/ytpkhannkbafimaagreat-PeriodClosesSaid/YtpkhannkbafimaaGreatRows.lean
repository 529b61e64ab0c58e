/-
  No cell of these rows narrows 'for every input' (looked for: loops, veiled, ifaces, maps, wideKeys, modest, calm, conditions, laid).
  DERIVED. THE GIVEN ROWS OF THIS SEAT. 8 by the template 'for every input the law returns true; each argument reads behind the call as it read before'; 0 by the template 'total and deterministic' (their statements: YtpkhannkbafimaaGreatTotals.lean).
  GIVEN WITH THE SEED: the statements are not yours to turn. If you find one false, say at which input.
  Laid BY PROGRAM, IN A SANDBOX (cutbox-rows.mjs): the forced cells as the released guide's own fill.sh prints them over the translation b3de969cf23ceb39… (all of the seat's roots in one cut). By AI agents, Wed Nov 11 2026. No macro, syntax, notation, axiom, sorry.
-/
import Derived.Test.YtpkhannkbafimaaGreatChecked
import GoSem.Claim
import GoSem.ClaimJoined
import GoSem.ClaimMapViews
import Derived.JoinedTies
import Derived.KernelRfl
namespace Go.Proofs.YtpkhannkbafimaaGreat
/- THE CELL 'sum', in the pinned program and in every row, IS THE sha256 OF THE DUMP (.gsa) THAT YtpkhannkbafimaaGreatProg.lean LOADS. Nothing in Lean hashes anything: it is a label: what it is worth is what the hold of that sum in a sandbox is worth. -/
noncomputable def Tryz.pinned : Pinned := { name := "ytpkhannkbafimaagreat", sum := "b3de969cf23ceb3916573d3325debc3da8d39c59498b01b63313b91a619922e6", checked := Tryz.checked }
namespace Rows
def none {H : Type} : Left H := { results := [], args := [] }

/-- 'skiarealaw38.PeriodChecks': WHATEVER THE INPUT: true; the input reads as it did. -/
def periodChecksSpec : ChangeSpec := { name := "periodChecks", fn := fun _ => fun
  | [d] => { results := [.lit (.bool true)], args := [d] }
  | _ => none }
def periodChecksRow : OpenClaim := { program := "ytpkhannkbafimaagreat", sum := "b3de969cf23ceb3916573d3325debc3da8d39c59498b01b63313b91a619922e6", func := "skiarea/skiarealaw38.PeriodChecks", spec := "periodChecks", unfollowed := true, recurses := true, plainKeys := false, apart := false }
def PeriodChecksSaid : Prop := periodChecksRow.holds Tryz.pinned (OpenSpec.ofChange periodChecksSpec)

/-- ITS FALSE NEIGHBOUR: 'it returns false'. Refute it at one input. -/
def periodChecksWrong : ChangeSpec := { name := "periodChecks", fn := fun _ => fun
  | [d] => { results := [.lit (.bool false)], args := [d] }
  | _ => none }
def PeriodChecksWrongFalsely : Prop := periodChecksRow.holds Tryz.pinned (OpenSpec.ofChange periodChecksWrong)

/-- 'skiarealaw38.PeriodBegins': WHATEVER THE INPUT: true; the input reads as it did. -/
def periodBeginsSpec : ChangeSpec := { name := "periodBegins", fn := fun _ => fun
  | [d1, d2] => { results := [.lit (.bool true)], args := [d1, d2] }
  | _ => none }
def periodBeginsRow : OpenClaim := { program := "ytpkhannkbafimaagreat", sum := "b3de969cf23ceb3916573d3325debc3da8d39c59498b01b63313b91a619922e6", func := "skiarea/skiarealaw38.PeriodBegins", spec := "periodBegins", unfollowed := true, recurses := true, plainKeys := false, apart := false }
def PeriodBeginsSaid : Prop := periodBeginsRow.holds Tryz.pinned (OpenSpec.ofChange periodBeginsSpec)

/-- ITS FALSE NEIGHBOUR: 'it returns false'. Refute it at one input. -/
def periodBeginsWrong : ChangeSpec := { name := "periodBegins", fn := fun _ => fun
  | [d1, d2] => { results := [.lit (.bool false)], args := [d1, d2] }
  | _ => none }
def PeriodBeginsWrongFalsely : Prop := periodBeginsRow.holds Tryz.pinned (OpenSpec.ofChange periodBeginsWrong)

/-- 'skiarealaw38.PeriodEnters': WHATEVER THE INPUT: true; the input reads as it did. -/
def periodEntersSpec : ChangeSpec := { name := "periodEnters", fn := fun _ => fun
  | [d1, d2] => { results := [.lit (.bool true)], args := [d1, d2] }
  | _ => none }
def periodEntersRow : OpenClaim := { program := "ytpkhannkbafimaagreat", sum := "b3de969cf23ceb3916573d3325debc3da8d39c59498b01b63313b91a619922e6", func := "skiarea/skiarealaw38.PeriodEnters", spec := "periodEnters", unfollowed := true, recurses := true, plainKeys := false, apart := false }
def PeriodEntersSaid : Prop := periodEntersRow.holds Tryz.pinned (OpenSpec.ofChange periodEntersSpec)

/-- ITS FALSE NEIGHBOUR: 'it returns false'. Refute it at one input. -/
def periodEntersWrong : ChangeSpec := { name := "periodEnters", fn := fun _ => fun
  | [d1, d2] => { results := [.lit (.bool false)], args := [d1, d2] }
  | _ => none }
def PeriodEntersWrongFalsely : Prop := periodEntersRow.holds Tryz.pinned (OpenSpec.ofChange periodEntersWrong)

/-- 'skiarealaw38.PeriodRides': WHATEVER THE INPUT: true; the input reads as it did. -/
def periodRidesSpec : ChangeSpec := { name := "periodRides", fn := fun _ => fun
  | [d1, d2] => { results := [.lit (.bool true)], args := [d1, d2] }
  | _ => none }
def periodRidesRow : OpenClaim := { program := "ytpkhannkbafimaagreat", sum := "b3de969cf23ceb3916573d3325debc3da8d39c59498b01b63313b91a619922e6", func := "skiarea/skiarealaw38.PeriodRides", spec := "periodRides", unfollowed := true, recurses := true, plainKeys := false, apart := false }
def PeriodRidesSaid : Prop := periodRidesRow.holds Tryz.pinned (OpenSpec.ofChange periodRidesSpec)

/-- ITS FALSE NEIGHBOUR: 'it returns false'. Refute it at one input. -/
def periodRidesWrong : ChangeSpec := { name := "periodRides", fn := fun _ => fun
  | [d1, d2] => { results := [.lit (.bool false)], args := [d1, d2] }
  | _ => none }
def PeriodRidesWrongFalsely : Prop := periodRidesRow.holds Tryz.pinned (OpenSpec.ofChange periodRidesWrong)

/-- 'skiarealaw38.PeriodOnce': WHATEVER THE INPUT: true; the input reads as it did. -/
def periodOnceSpec : ChangeSpec := { name := "periodOnce", fn := fun _ => fun
  | [d1, d2] => { results := [.lit (.bool true)], args := [d1, d2] }
  | _ => none }
def periodOnceRow : OpenClaim := { program := "ytpkhannkbafimaagreat", sum := "b3de969cf23ceb3916573d3325debc3da8d39c59498b01b63313b91a619922e6", func := "skiarea/skiarealaw38.PeriodOnce", spec := "periodOnce", unfollowed := true, recurses := true, plainKeys := false, apart := false }
def PeriodOnceSaid : Prop := periodOnceRow.holds Tryz.pinned (OpenSpec.ofChange periodOnceSpec)

/-- ITS FALSE NEIGHBOUR: 'it returns false'. Refute it at one input. -/
def periodOnceWrong : ChangeSpec := { name := "periodOnce", fn := fun _ => fun
  | [d1, d2] => { results := [.lit (.bool false)], args := [d1, d2] }
  | _ => none }
def PeriodOnceWrongFalsely : Prop := periodOnceRow.holds Tryz.pinned (OpenSpec.ofChange periodOnceWrong)

/-- 'skiarealaw38.PeriodStays': WHATEVER THE INPUT: true; the input reads as it did. -/
def periodStaysSpec : ChangeSpec := { name := "periodStays", fn := fun _ => fun
  | [d1, d2] => { results := [.lit (.bool true)], args := [d1, d2] }
  | _ => none }
def periodStaysRow : OpenClaim := { program := "ytpkhannkbafimaagreat", sum := "b3de969cf23ceb3916573d3325debc3da8d39c59498b01b63313b91a619922e6", func := "skiarea/skiarealaw38.PeriodStays", spec := "periodStays", unfollowed := true, recurses := true, plainKeys := false, apart := false }
def PeriodStaysSaid : Prop := periodStaysRow.holds Tryz.pinned (OpenSpec.ofChange periodStaysSpec)

/-- ITS FALSE NEIGHBOUR: 'it returns false'. Refute it at one input. -/
def periodStaysWrong : ChangeSpec := { name := "periodStays", fn := fun _ => fun
  | [d1, d2] => { results := [.lit (.bool false)], args := [d1, d2] }
  | _ => none }
def PeriodStaysWrongFalsely : Prop := periodStaysRow.holds Tryz.pinned (OpenSpec.ofChange periodStaysWrong)

/-- 'skiarealaw38.PeriodSettled': WHATEVER THE INPUT: true; the input reads as it did. -/
def periodSettledSpec : ChangeSpec := { name := "periodSettled", fn := fun _ => fun
  | [d1, d2, d3, d4] => { results := [.lit (.bool true)], args := [d1, d2, d3, d4] }
  | _ => none }
def periodSettledRow : OpenClaim := { program := "ytpkhannkbafimaagreat", sum := "b3de969cf23ceb3916573d3325debc3da8d39c59498b01b63313b91a619922e6", func := "skiarea/skiarealaw38.PeriodSettled", spec := "periodSettled", unfollowed := true, recurses := true, plainKeys := false, apart := false }
def PeriodSettledSaid : Prop := periodSettledRow.holds Tryz.pinned (OpenSpec.ofChange periodSettledSpec)

/-- ITS FALSE NEIGHBOUR: 'it returns false'. Refute it at one input. -/
def periodSettledWrong : ChangeSpec := { name := "periodSettled", fn := fun _ => fun
  | [d1, d2, d3, d4] => { results := [.lit (.bool false)], args := [d1, d2, d3, d4] }
  | _ => none }
def PeriodSettledWrongFalsely : Prop := periodSettledRow.holds Tryz.pinned (OpenSpec.ofChange periodSettledWrong)

/-- 'skiarealaw38.PeriodCloses': WHATEVER THE INPUT: true; the input reads as it did. -/
def periodClosesSpec : ChangeSpec := { name := "periodCloses", fn := fun _ => fun
  | [d1, d2, d3, d4] => { results := [.lit (.bool true)], args := [d1, d2, d3, d4] }
  | _ => none }
def periodClosesRow : OpenClaim := { program := "ytpkhannkbafimaagreat", sum := "b3de969cf23ceb3916573d3325debc3da8d39c59498b01b63313b91a619922e6", func := "skiarea/skiarealaw38.PeriodCloses", spec := "periodCloses", unfollowed := true, recurses := true, plainKeys := false, apart := false }
def PeriodClosesSaid : Prop := periodClosesRow.holds Tryz.pinned (OpenSpec.ofChange periodClosesSpec)

/-- ITS FALSE NEIGHBOUR: 'it returns false'. Refute it at one input. -/
def periodClosesWrong : ChangeSpec := { name := "periodCloses", fn := fun _ => fun
  | [d1, d2, d3, d4] => { results := [.lit (.bool false)], args := [d1, d2, d3, d4] }
  | _ => none }
def PeriodClosesWrongFalsely : Prop := periodClosesRow.holds Tryz.pinned (OpenSpec.ofChange periodClosesWrong)

/- THE SECOND FORM. 'bulk': how many values and letters a reading holds, each counted each time it is reached (what is shared counts as often as it is met; a slice's spare places count too). A statement '..UptoSaid' is the law's where the arguments, and the package variables that the reading takes, are together of bulk at most 1048576: NARROWER than '..Said'. Prove '..Said' where nothing that the law and all that it calls make is longer than what came in: it says more and counts as full. Else prove '..UptoSaid'. A law counts once. -/
mutual
def uptoBulk {H : Type} : DataW H → Nat
  | .lit (.string bytes) => bytes.length + 1
  | .lit _ => 1
  | .nil => 1
  | .ptr d => uptoBulk d + 1
  | .slice elems spare => uptoBulkAll elems + uptoBulkAll spare + 1
  | .agg parts => uptoBulkAll parts + 1
  | .iface _ d => uptoBulk d + 1
  | .map entries => uptoBulkEntries entries + 1
  | .held _ => 1
def uptoBulkAll {H : Type} : List (DataW H) → Nat
  | [] => 0
  | d :: r => uptoBulk d + uptoBulkAll r
def uptoBulkEntries {H : Type} : List (Lit × DataW H) → Nat
  | [] => 0
  | x :: r => uptoBulkEntry x + uptoBulkEntries r
def uptoBulkEntry {H : Type} : Lit × DataW H → Nat
  | (.string bytes, d) => bytes.length + uptoBulk d + 1
  | (_, d) => uptoBulk d + 1
 end
def uptoSmall : (H : Type) → List (DataW H) → Bool := fun _ ds => decide (uptoBulkAll ds ≤ 1048576)
def OpenSpec.upto (s : _root_.Go.ChangeSpec) : _root_.Go.OpenSpec := { _root_.Go.OpenSpec.ofChange s with cond := some uptoSmall }

/-- 'skiarealaw38.PeriodChecks', WHERE WHAT IT READS IS OF BULK AT MOST 1048576: true; the input reads as it did. -/
def periodChecksUptoRow : OpenClaim := { program := "ytpkhannkbafimaagreat", sum := "b3de969cf23ceb3916573d3325debc3da8d39c59498b01b63313b91a619922e6", func := "skiarea/skiarealaw38.PeriodChecks", spec := "periodChecks", unfollowed := true, recurses := true, plainKeys := false, apart := false, narrowed := true }
def PeriodChecksUptoSaid : Prop := periodChecksUptoRow.holds Tryz.pinned (OpenSpec.upto periodChecksSpec)

/-- 'skiarealaw38.PeriodBegins', WHERE WHAT IT READS IS OF BULK AT MOST 1048576: true; the input reads as it did. -/
def periodBeginsUptoRow : OpenClaim := { program := "ytpkhannkbafimaagreat", sum := "b3de969cf23ceb3916573d3325debc3da8d39c59498b01b63313b91a619922e6", func := "skiarea/skiarealaw38.PeriodBegins", spec := "periodBegins", unfollowed := true, recurses := true, plainKeys := false, apart := false, narrowed := true }
def PeriodBeginsUptoSaid : Prop := periodBeginsUptoRow.holds Tryz.pinned (OpenSpec.upto periodBeginsSpec)

/-- 'skiarealaw38.PeriodEnters', WHERE WHAT IT READS IS OF BULK AT MOST 1048576: true; the input reads as it did. -/
def periodEntersUptoRow : OpenClaim := { program := "ytpkhannkbafimaagreat", sum := "b3de969cf23ceb3916573d3325debc3da8d39c59498b01b63313b91a619922e6", func := "skiarea/skiarealaw38.PeriodEnters", spec := "periodEnters", unfollowed := true, recurses := true, plainKeys := false, apart := false, narrowed := true }
def PeriodEntersUptoSaid : Prop := periodEntersUptoRow.holds Tryz.pinned (OpenSpec.upto periodEntersSpec)

/-- 'skiarealaw38.PeriodRides', WHERE WHAT IT READS IS OF BULK AT MOST 1048576: true; the input reads as it did. -/
def periodRidesUptoRow : OpenClaim := { program := "ytpkhannkbafimaagreat", sum := "b3de969cf23ceb3916573d3325debc3da8d39c59498b01b63313b91a619922e6", func := "skiarea/skiarealaw38.PeriodRides", spec := "periodRides", unfollowed := true, recurses := true, plainKeys := false, apart := false, narrowed := true }
def PeriodRidesUptoSaid : Prop := periodRidesUptoRow.holds Tryz.pinned (OpenSpec.upto periodRidesSpec)

/-- 'skiarealaw38.PeriodOnce', WHERE WHAT IT READS IS OF BULK AT MOST 1048576: true; the input reads as it did. -/
def periodOnceUptoRow : OpenClaim := { program := "ytpkhannkbafimaagreat", sum := "b3de969cf23ceb3916573d3325debc3da8d39c59498b01b63313b91a619922e6", func := "skiarea/skiarealaw38.PeriodOnce", spec := "periodOnce", unfollowed := true, recurses := true, plainKeys := false, apart := false, narrowed := true }
def PeriodOnceUptoSaid : Prop := periodOnceUptoRow.holds Tryz.pinned (OpenSpec.upto periodOnceSpec)

/-- 'skiarealaw38.PeriodStays', WHERE WHAT IT READS IS OF BULK AT MOST 1048576: true; the input reads as it did. -/
def periodStaysUptoRow : OpenClaim := { program := "ytpkhannkbafimaagreat", sum := "b3de969cf23ceb3916573d3325debc3da8d39c59498b01b63313b91a619922e6", func := "skiarea/skiarealaw38.PeriodStays", spec := "periodStays", unfollowed := true, recurses := true, plainKeys := false, apart := false, narrowed := true }
def PeriodStaysUptoSaid : Prop := periodStaysUptoRow.holds Tryz.pinned (OpenSpec.upto periodStaysSpec)

/-- 'skiarealaw38.PeriodSettled', WHERE WHAT IT READS IS OF BULK AT MOST 1048576: true; the input reads as it did. -/
def periodSettledUptoRow : OpenClaim := { program := "ytpkhannkbafimaagreat", sum := "b3de969cf23ceb3916573d3325debc3da8d39c59498b01b63313b91a619922e6", func := "skiarea/skiarealaw38.PeriodSettled", spec := "periodSettled", unfollowed := true, recurses := true, plainKeys := false, apart := false, narrowed := true }
def PeriodSettledUptoSaid : Prop := periodSettledUptoRow.holds Tryz.pinned (OpenSpec.upto periodSettledSpec)

/-- 'skiarealaw38.PeriodCloses', WHERE WHAT IT READS IS OF BULK AT MOST 1048576: true; the input reads as it did. -/
def periodClosesUptoRow : OpenClaim := { program := "ytpkhannkbafimaagreat", sum := "b3de969cf23ceb3916573d3325debc3da8d39c59498b01b63313b91a619922e6", func := "skiarea/skiarealaw38.PeriodCloses", spec := "periodCloses", unfollowed := true, recurses := true, plainKeys := false, apart := false, narrowed := true }
def PeriodClosesUptoSaid : Prop := periodClosesUptoRow.holds Tryz.pinned (OpenSpec.upto periodClosesSpec)

end Rows
end Go.Proofs.YtpkhannkbafimaaGreat
