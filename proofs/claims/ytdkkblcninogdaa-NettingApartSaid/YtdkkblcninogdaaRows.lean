/-
  No cell of these rows narrows 'for every input' (looked for: loops, veiled, ifaces, maps, wideKeys, modest, calm, conditions, laid).
  DERIVED. THE GIVEN ROWS OF THIS SEAT. 7 by the template 'for every input the law returns true; each argument reads behind the call as it read before'; 0 by the template 'total and deterministic' (their statements: YtdkkblcninogdaaTotals.lean).
  GIVEN WITH THE SEED: the statements are not yours to turn. If you find one false, say at which input.
  Laid BY PROGRAM, IN A SANDBOX (cutbox-rows.mjs): the forced cells as the released guide's own fill.sh prints them over the translation d89506b1b28d9dbf… (all of the seat's roots in one cut). By AI agents, Wed Nov 11 2026. No macro, syntax, notation, axiom, sorry.
-/
import Derived.Test.YtdkkblcninogdaaChecked
import GoSem.Claim
import GoSem.ClaimJoined
import GoSem.ClaimMapViews
import Derived.JoinedTies
import Derived.KernelRfl
namespace Go.Proofs.Ytdkkblcninogdaa
/- THE CELL 'sum', in the pinned program and in every row, IS THE sha256 OF THE DUMP (.gsa) THAT YtdkkblcninogdaaProg.lean LOADS. Nothing in Lean hashes anything: it is a label: what it is worth is what the hold of that sum in a sandbox is worth. -/
noncomputable def Try.pinned : Pinned := { name := "ytdkkblcninogdaa", sum := "d89506b1b28d9dbfe6ff7f9228b3387e1acd213e35a87ed809a259d885aca756", checked := Try.checked }
namespace Rows
def none {H : Type} : Left H := { results := [], args := [] }

/-- 'skiarealaw37.NettingRight': WHATEVER THE INPUT: true; the input reads as it did. -/
def nettingRightSpec : ChangeSpec := { name := "nettingRight", fn := fun _ => fun
  | [d] => { results := [.lit (.bool true)], args := [d] }
  | _ => none }
def nettingRightRow : OpenClaim := { program := "ytdkkblcninogdaa", sum := "d89506b1b28d9dbfe6ff7f9228b3387e1acd213e35a87ed809a259d885aca756", func := "skiarea/skiarealaw37.NettingRight", spec := "nettingRight", unfollowed := true, recurses := true, apart := false }
def NettingRightSaid : Prop := nettingRightRow.holds Try.pinned (OpenSpec.ofChange nettingRightSpec)

/-- ITS FALSE NEIGHBOUR: 'it returns false'. Refute it at one input. -/
def nettingRightWrong : ChangeSpec := { name := "nettingRight", fn := fun _ => fun
  | [d] => { results := [.lit (.bool false)], args := [d] }
  | _ => none }
def NettingRightWrongFalsely : Prop := nettingRightRow.holds Try.pinned (OpenSpec.ofChange nettingRightWrong)

/-- 'skiarealaw37.NettingValid': WHATEVER THE INPUT: true; the input reads as it did. -/
def nettingValidSpec : ChangeSpec := { name := "nettingValid", fn := fun _ => fun
  | [d1, d2] => { results := [.lit (.bool true)], args := [d1, d2] }
  | _ => none }
def nettingValidRow : OpenClaim := { program := "ytdkkblcninogdaa", sum := "d89506b1b28d9dbfe6ff7f9228b3387e1acd213e35a87ed809a259d885aca756", func := "skiarea/skiarealaw37.NettingValid", spec := "nettingValid", unfollowed := true, recurses := true, apart := false }
def NettingValidSaid : Prop := nettingValidRow.holds Try.pinned (OpenSpec.ofChange nettingValidSpec)

/-- ITS FALSE NEIGHBOUR: 'it returns false'. Refute it at one input. -/
def nettingValidWrong : ChangeSpec := { name := "nettingValid", fn := fun _ => fun
  | [d1, d2] => { results := [.lit (.bool false)], args := [d1, d2] }
  | _ => none }
def NettingValidWrongFalsely : Prop := nettingValidRow.holds Try.pinned (OpenSpec.ofChange nettingValidWrong)

/-- 'skiarealaw37.NettingCounts': WHATEVER THE INPUT: true; the input reads as it did. -/
def nettingCountsSpec : ChangeSpec := { name := "nettingCounts", fn := fun _ => fun
  | [d] => { results := [.lit (.bool true)], args := [d] }
  | _ => none }
def nettingCountsRow : OpenClaim := { program := "ytdkkblcninogdaa", sum := "d89506b1b28d9dbfe6ff7f9228b3387e1acd213e35a87ed809a259d885aca756", func := "skiarea/skiarealaw37.NettingCounts", spec := "nettingCounts", unfollowed := true, recurses := true, apart := false }
def NettingCountsSaid : Prop := nettingCountsRow.holds Try.pinned (OpenSpec.ofChange nettingCountsSpec)

/-- ITS FALSE NEIGHBOUR: 'it returns false'. Refute it at one input. -/
def nettingCountsWrong : ChangeSpec := { name := "nettingCounts", fn := fun _ => fun
  | [d] => { results := [.lit (.bool false)], args := [d] }
  | _ => none }
def NettingCountsWrongFalsely : Prop := nettingCountsRow.holds Try.pinned (OpenSpec.ofChange nettingCountsWrong)

/-- 'skiarealaw37.NettingNets': WHATEVER THE INPUT: true; the input reads as it did. -/
def nettingNetsSpec : ChangeSpec := { name := "nettingNets", fn := fun _ => fun
  | [d] => { results := [.lit (.bool true)], args := [d] }
  | _ => none }
def nettingNetsRow : OpenClaim := { program := "ytdkkblcninogdaa", sum := "d89506b1b28d9dbfe6ff7f9228b3387e1acd213e35a87ed809a259d885aca756", func := "skiarea/skiarealaw37.NettingNets", spec := "nettingNets", unfollowed := true, recurses := true, apart := false }
def NettingNetsSaid : Prop := nettingNetsRow.holds Try.pinned (OpenSpec.ofChange nettingNetsSpec)

/-- ITS FALSE NEIGHBOUR: 'it returns false'. Refute it at one input. -/
def nettingNetsWrong : ChangeSpec := { name := "nettingNets", fn := fun _ => fun
  | [d] => { results := [.lit (.bool false)], args := [d] }
  | _ => none }
def NettingNetsWrongFalsely : Prop := nettingNetsRow.holds Try.pinned (OpenSpec.ofChange nettingNetsWrong)

/-- 'skiarealaw37.NettingLeast': WHATEVER THE INPUT: true; the input reads as it did. -/
def nettingLeastSpec : ChangeSpec := { name := "nettingLeast", fn := fun _ => fun
  | [d1, d2] => { results := [.lit (.bool true)], args := [d1, d2] }
  | _ => none }
def nettingLeastRow : OpenClaim := { program := "ytdkkblcninogdaa", sum := "d89506b1b28d9dbfe6ff7f9228b3387e1acd213e35a87ed809a259d885aca756", func := "skiarea/skiarealaw37.NettingLeast", spec := "nettingLeast", unfollowed := true, recurses := true, apart := false }
def NettingLeastSaid : Prop := nettingLeastRow.holds Try.pinned (OpenSpec.ofChange nettingLeastSpec)

/-- ITS FALSE NEIGHBOUR: 'it returns false'. Refute it at one input. -/
def nettingLeastWrong : ChangeSpec := { name := "nettingLeast", fn := fun _ => fun
  | [d1, d2] => { results := [.lit (.bool false)], args := [d1, d2] }
  | _ => none }
def NettingLeastWrongFalsely : Prop := nettingLeastRow.holds Try.pinned (OpenSpec.ofChange nettingLeastWrong)

/-- 'skiarealaw37.NettingBounds': WHATEVER THE INPUT: true; the input reads as it did. -/
def nettingBoundsSpec : ChangeSpec := { name := "nettingBounds", fn := fun _ => fun
  | [d] => { results := [.lit (.bool true)], args := [d] }
  | _ => none }
def nettingBoundsRow : OpenClaim := { program := "ytdkkblcninogdaa", sum := "d89506b1b28d9dbfe6ff7f9228b3387e1acd213e35a87ed809a259d885aca756", func := "skiarea/skiarealaw37.NettingBounds", spec := "nettingBounds", unfollowed := true, recurses := true, apart := false }
def NettingBoundsSaid : Prop := nettingBoundsRow.holds Try.pinned (OpenSpec.ofChange nettingBoundsSpec)

/-- ITS FALSE NEIGHBOUR: 'it returns false'. Refute it at one input. -/
def nettingBoundsWrong : ChangeSpec := { name := "nettingBounds", fn := fun _ => fun
  | [d] => { results := [.lit (.bool false)], args := [d] }
  | _ => none }
def NettingBoundsWrongFalsely : Prop := nettingBoundsRow.holds Try.pinned (OpenSpec.ofChange nettingBoundsWrong)

/-- 'skiarealaw37.NettingApart': WHATEVER THE INPUT: true; the input reads as it did. -/
def nettingApartSpec : ChangeSpec := { name := "nettingApart", fn := fun _ => fun
  | [d1, d2] => { results := [.lit (.bool true)], args := [d1, d2] }
  | _ => none }
def nettingApartRow : OpenClaim := { program := "ytdkkblcninogdaa", sum := "d89506b1b28d9dbfe6ff7f9228b3387e1acd213e35a87ed809a259d885aca756", func := "skiarea/skiarealaw37.NettingApart", spec := "nettingApart", unfollowed := true, recurses := true, apart := false }
def NettingApartSaid : Prop := nettingApartRow.holds Try.pinned (OpenSpec.ofChange nettingApartSpec)

/-- ITS FALSE NEIGHBOUR: 'it returns false'. Refute it at one input. -/
def nettingApartWrong : ChangeSpec := { name := "nettingApart", fn := fun _ => fun
  | [d1, d2] => { results := [.lit (.bool false)], args := [d1, d2] }
  | _ => none }
def NettingApartWrongFalsely : Prop := nettingApartRow.holds Try.pinned (OpenSpec.ofChange nettingApartWrong)

/- THE SECOND FORM. 'bulk': how many values and letters a reading holds, each counted each time it is reached (what is shared counts as often as it is met; a slice's spare places count too). A statement '..UptoSaid' is the law's where the arguments, and the package variables that the reading takes, are together of bulk at most 1048576: NARROWER than '..Said'. Prove '..Said' where nothing that the law and all that it calls make is longer than what came in: it says more and counts as full. Else prove '..UptoSaid'. A law counts once. -/
mutual
def uptoBulk {H : Type} : DataW H → Nat
  | .lit (.string bytes) => bytes.length + 1
  | .lit _ => 1
  | .nil => 1
  | .ptr d => uptoBulk d + 1
  | .slice elems spare => uptoBulkAll elems + uptoBulkAll spare + 1
  | .agg parts => uptoBulkAll parts + 1
  | .iface _ d => uptoBulk d + 1
  | .map entries => uptoBulkEntries entries + 1
  | .held _ => 1
def uptoBulkAll {H : Type} : List (DataW H) → Nat
  | [] => 0
  | d :: r => uptoBulk d + uptoBulkAll r
def uptoBulkEntries {H : Type} : List (Lit × DataW H) → Nat
  | [] => 0
  | x :: r => uptoBulkEntry x + uptoBulkEntries r
def uptoBulkEntry {H : Type} : Lit × DataW H → Nat
  | (.string bytes, d) => bytes.length + uptoBulk d + 1
  | (_, d) => uptoBulk d + 1
 end
def uptoSmall : (H : Type) → List (DataW H) → Bool := fun _ ds => decide (uptoBulkAll ds ≤ 1048576)
def OpenSpec.upto (s : _root_.Go.ChangeSpec) : _root_.Go.OpenSpec := { _root_.Go.OpenSpec.ofChange s with cond := some uptoSmall }

/-- 'skiarealaw37.NettingRight', WHERE WHAT IT READS IS OF BULK AT MOST 1048576: true; the input reads as it did. -/
def nettingRightUptoRow : OpenClaim := { program := "ytdkkblcninogdaa", sum := "d89506b1b28d9dbfe6ff7f9228b3387e1acd213e35a87ed809a259d885aca756", func := "skiarea/skiarealaw37.NettingRight", spec := "nettingRight", unfollowed := true, recurses := true, apart := false, narrowed := true }
def NettingRightUptoSaid : Prop := nettingRightUptoRow.holds Try.pinned (OpenSpec.upto nettingRightSpec)

/-- 'skiarealaw37.NettingValid', WHERE WHAT IT READS IS OF BULK AT MOST 1048576: true; the input reads as it did. -/
def nettingValidUptoRow : OpenClaim := { program := "ytdkkblcninogdaa", sum := "d89506b1b28d9dbfe6ff7f9228b3387e1acd213e35a87ed809a259d885aca756", func := "skiarea/skiarealaw37.NettingValid", spec := "nettingValid", unfollowed := true, recurses := true, apart := false, narrowed := true }
def NettingValidUptoSaid : Prop := nettingValidUptoRow.holds Try.pinned (OpenSpec.upto nettingValidSpec)

/-- 'skiarealaw37.NettingCounts', WHERE WHAT IT READS IS OF BULK AT MOST 1048576: true; the input reads as it did. -/
def nettingCountsUptoRow : OpenClaim := { program := "ytdkkblcninogdaa", sum := "d89506b1b28d9dbfe6ff7f9228b3387e1acd213e35a87ed809a259d885aca756", func := "skiarea/skiarealaw37.NettingCounts", spec := "nettingCounts", unfollowed := true, recurses := true, apart := false, narrowed := true }
def NettingCountsUptoSaid : Prop := nettingCountsUptoRow.holds Try.pinned (OpenSpec.upto nettingCountsSpec)

/-- 'skiarealaw37.NettingNets', WHERE WHAT IT READS IS OF BULK AT MOST 1048576: true; the input reads as it did. -/
def nettingNetsUptoRow : OpenClaim := { program := "ytdkkblcninogdaa", sum := "d89506b1b28d9dbfe6ff7f9228b3387e1acd213e35a87ed809a259d885aca756", func := "skiarea/skiarealaw37.NettingNets", spec := "nettingNets", unfollowed := true, recurses := true, apart := false, narrowed := true }
def NettingNetsUptoSaid : Prop := nettingNetsUptoRow.holds Try.pinned (OpenSpec.upto nettingNetsSpec)

/-- 'skiarealaw37.NettingLeast', WHERE WHAT IT READS IS OF BULK AT MOST 1048576: true; the input reads as it did. -/
def nettingLeastUptoRow : OpenClaim := { program := "ytdkkblcninogdaa", sum := "d89506b1b28d9dbfe6ff7f9228b3387e1acd213e35a87ed809a259d885aca756", func := "skiarea/skiarealaw37.NettingLeast", spec := "nettingLeast", unfollowed := true, recurses := true, apart := false, narrowed := true }
def NettingLeastUptoSaid : Prop := nettingLeastUptoRow.holds Try.pinned (OpenSpec.upto nettingLeastSpec)

/-- 'skiarealaw37.NettingBounds', WHERE WHAT IT READS IS OF BULK AT MOST 1048576: true; the input reads as it did. -/
def nettingBoundsUptoRow : OpenClaim := { program := "ytdkkblcninogdaa", sum := "d89506b1b28d9dbfe6ff7f9228b3387e1acd213e35a87ed809a259d885aca756", func := "skiarea/skiarealaw37.NettingBounds", spec := "nettingBounds", unfollowed := true, recurses := true, apart := false, narrowed := true }
def NettingBoundsUptoSaid : Prop := nettingBoundsUptoRow.holds Try.pinned (OpenSpec.upto nettingBoundsSpec)

/-- 'skiarealaw37.NettingApart', WHERE WHAT IT READS IS OF BULK AT MOST 1048576: true; the input reads as it did. -/
def nettingApartUptoRow : OpenClaim := { program := "ytdkkblcninogdaa", sum := "d89506b1b28d9dbfe6ff7f9228b3387e1acd213e35a87ed809a259d885aca756", func := "skiarea/skiarealaw37.NettingApart", spec := "nettingApart", unfollowed := true, recurses := true, apart := false, narrowed := true }
def NettingApartUptoSaid : Prop := nettingApartUptoRow.holds Try.pinned (OpenSpec.upto nettingApartSpec)

end Rows
end Go.Proofs.Ytdkkblcninogdaa
