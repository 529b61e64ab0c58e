/-
  No cell of these rows narrows 'for every input' (looked for: loops, veiled, ifaces, maps, wideKeys, modest, calm, conditions, laid).
  DERIVED. THE GIVEN ROWS OF THIS SEAT. 8 by the template 'for every input the law returns true; each argument reads behind the call as it read before'; 0 by the template 'total and deterministic' (their statements: YtfghmpfiemmbgaaTotals.lean).
  GIVEN WITH THE SEED: the statements are not yours to turn. If you find one false, say at which input.
  Laid BY PROGRAM, IN A SANDBOX (cutbox-rows.mjs): the forced cells as the released guide's own fill.sh prints them over the translation a67ca1389ffdc952… (all of the seat's roots in one cut). By AI agents, Wed Nov 11 2026. No macro, syntax, notation, axiom, sorry.
-/
import Derived.Test.YtfghmpfiemmbgaaChecked
import GoSem.Claim
import GoSem.ClaimJoined
import GoSem.ClaimMapViews
import Derived.JoinedTies
import Derived.KernelRfl
namespace Go.Proofs.Ytfghmpfiemmbgaa
/- THE CELL 'sum', in the pinned program and in every row, IS THE sha256 OF THE DUMP (.gsa) THAT YtfghmpfiemmbgaaProg.lean LOADS. Nothing in Lean hashes anything: it is a label: what it is worth is what the hold of that sum in a sandbox is worth. -/
noncomputable def Try.pinned : Pinned := { name := "ytfghmpfiemmbgaa", sum := "a67ca1389ffdc952df833b08e26c6b967b2660060da870d3f6ac8ef74e26e3db", checked := Try.checked }
namespace Rows
def none {H : Type} : Left H := { results := [], args := [] }

/-- 'skiarealaw31.RidesRight': WHATEVER THE INPUT: true; the input reads as it did. -/
def ridesRightSpec : ChangeSpec := { name := "ridesRight", fn := fun _ => fun
  | [d] => { results := [.lit (.bool true)], args := [d] }
  | _ => none }
def ridesRightRow : OpenClaim := { program := "ytfghmpfiemmbgaa", sum := "a67ca1389ffdc952df833b08e26c6b967b2660060da870d3f6ac8ef74e26e3db", func := "skiarea/skiarealaw31.RidesRight", spec := "ridesRight", unfollowed := true, recurses := true, plainKeys := false, apart := false }
def RidesRightSaid : Prop := ridesRightRow.holds Try.pinned (OpenSpec.ofChange ridesRightSpec)

/-- ITS FALSE NEIGHBOUR: 'it returns false'. Refute it at one input. -/
def ridesRightWrong : ChangeSpec := { name := "ridesRight", fn := fun _ => fun
  | [d] => { results := [.lit (.bool false)], args := [d] }
  | _ => none }
def RidesRightWrongFalsely : Prop := ridesRightRow.holds Try.pinned (OpenSpec.ofChange ridesRightWrong)

/-- 'skiarealaw31.RidesAdds': WHATEVER THE INPUT: true; the input reads as it did. -/
def ridesAddsSpec : ChangeSpec := { name := "ridesAdds", fn := fun _ => fun
  | [d1, d2] => { results := [.lit (.bool true)], args := [d1, d2] }
  | _ => none }
def ridesAddsRow : OpenClaim := { program := "ytfghmpfiemmbgaa", sum := "a67ca1389ffdc952df833b08e26c6b967b2660060da870d3f6ac8ef74e26e3db", func := "skiarea/skiarealaw31.RidesAdds", spec := "ridesAdds", unfollowed := true, recurses := true, plainKeys := false, apart := false }
def RidesAddsSaid : Prop := ridesAddsRow.holds Try.pinned (OpenSpec.ofChange ridesAddsSpec)

/-- ITS FALSE NEIGHBOUR: 'it returns false'. Refute it at one input. -/
def ridesAddsWrong : ChangeSpec := { name := "ridesAdds", fn := fun _ => fun
  | [d1, d2] => { results := [.lit (.bool false)], args := [d1, d2] }
  | _ => none }
def RidesAddsWrongFalsely : Prop := ridesAddsRow.holds Try.pinned (OpenSpec.ofChange ridesAddsWrong)

/-- 'skiarealaw31.RidesMerges': WHATEVER THE INPUT: true; the input reads as it did. -/
def ridesMergesSpec : ChangeSpec := { name := "ridesMerges", fn := fun _ => fun
  | [d1, d2] => { results := [.lit (.bool true)], args := [d1, d2] }
  | _ => none }
def ridesMergesRow : OpenClaim := { program := "ytfghmpfiemmbgaa", sum := "a67ca1389ffdc952df833b08e26c6b967b2660060da870d3f6ac8ef74e26e3db", func := "skiarea/skiarealaw31.RidesMerges", spec := "ridesMerges", unfollowed := true, recurses := true, plainKeys := false, apart := false }
def RidesMergesSaid : Prop := ridesMergesRow.holds Try.pinned (OpenSpec.ofChange ridesMergesSpec)

/-- ITS FALSE NEIGHBOUR: 'it returns false'. Refute it at one input. -/
def ridesMergesWrong : ChangeSpec := { name := "ridesMerges", fn := fun _ => fun
  | [d1, d2] => { results := [.lit (.bool false)], args := [d1, d2] }
  | _ => none }
def RidesMergesWrongFalsely : Prop := ridesMergesRow.holds Try.pinned (OpenSpec.ofChange ridesMergesWrong)

/-- 'skiarealaw31.RidesFull': WHATEVER THE INPUT: true; the input reads as it did. -/
def ridesFullSpec : ChangeSpec := { name := "ridesFull", fn := fun _ => fun
  | [d1, d2] => { results := [.lit (.bool true)], args := [d1, d2] }
  | _ => none }
def ridesFullRow : OpenClaim := { program := "ytfghmpfiemmbgaa", sum := "a67ca1389ffdc952df833b08e26c6b967b2660060da870d3f6ac8ef74e26e3db", func := "skiarea/skiarealaw31.RidesFull", spec := "ridesFull", unfollowed := true, recurses := true, plainKeys := false, apart := false }
def RidesFullSaid : Prop := ridesFullRow.holds Try.pinned (OpenSpec.ofChange ridesFullSpec)

/-- ITS FALSE NEIGHBOUR: 'it returns false'. Refute it at one input. -/
def ridesFullWrong : ChangeSpec := { name := "ridesFull", fn := fun _ => fun
  | [d1, d2] => { results := [.lit (.bool false)], args := [d1, d2] }
  | _ => none }
def RidesFullWrongFalsely : Prop := ridesFullRow.holds Try.pinned (OpenSpec.ofChange ridesFullWrong)

/-- 'skiarealaw31.RidesMerge': WHATEVER THE INPUT: true; the input reads as it did. -/
def ridesMergeSpec : ChangeSpec := { name := "ridesMerge", fn := fun _ => fun
  | [d1, d2, d3] => { results := [.lit (.bool true)], args := [d1, d2, d3] }
  | _ => none }
def ridesMergeRow : OpenClaim := { program := "ytfghmpfiemmbgaa", sum := "a67ca1389ffdc952df833b08e26c6b967b2660060da870d3f6ac8ef74e26e3db", func := "skiarea/skiarealaw31.RidesMerge", spec := "ridesMerge", unfollowed := true, recurses := true, plainKeys := false, apart := false }
def RidesMergeSaid : Prop := ridesMergeRow.holds Try.pinned (OpenSpec.ofChange ridesMergeSpec)

/-- ITS FALSE NEIGHBOUR: 'it returns false'. Refute it at one input. -/
def ridesMergeWrong : ChangeSpec := { name := "ridesMerge", fn := fun _ => fun
  | [d1, d2, d3] => { results := [.lit (.bool false)], args := [d1, d2, d3] }
  | _ => none }
def RidesMergeWrongFalsely : Prop := ridesMergeRow.holds Try.pinned (OpenSpec.ofChange ridesMergeWrong)

/-- 'skiarealaw31.RidesOnce': WHATEVER THE INPUT: true; the input reads as it did. -/
def ridesOnceSpec : ChangeSpec := { name := "ridesOnce", fn := fun _ => fun
  | [d1, d2] => { results := [.lit (.bool true)], args := [d1, d2] }
  | _ => none }
def ridesOnceRow : OpenClaim := { program := "ytfghmpfiemmbgaa", sum := "a67ca1389ffdc952df833b08e26c6b967b2660060da870d3f6ac8ef74e26e3db", func := "skiarea/skiarealaw31.RidesOnce", spec := "ridesOnce", unfollowed := true, recurses := true, plainKeys := false, apart := false }
def RidesOnceSaid : Prop := ridesOnceRow.holds Try.pinned (OpenSpec.ofChange ridesOnceSpec)

/-- ITS FALSE NEIGHBOUR: 'it returns false'. Refute it at one input. -/
def ridesOnceWrong : ChangeSpec := { name := "ridesOnce", fn := fun _ => fun
  | [d1, d2] => { results := [.lit (.bool false)], args := [d1, d2] }
  | _ => none }
def RidesOnceWrongFalsely : Prop := ridesOnceRow.holds Try.pinned (OpenSpec.ofChange ridesOnceWrong)

/-- 'skiarealaw31.RidesGaps': WHATEVER THE INPUT: true; the input reads as it did. -/
def ridesGapsSpec : ChangeSpec := { name := "ridesGaps", fn := fun _ => fun
  | [d1, d2] => { results := [.lit (.bool true)], args := [d1, d2] }
  | _ => none }
def ridesGapsRow : OpenClaim := { program := "ytfghmpfiemmbgaa", sum := "a67ca1389ffdc952df833b08e26c6b967b2660060da870d3f6ac8ef74e26e3db", func := "skiarea/skiarealaw31.RidesGaps", spec := "ridesGaps", unfollowed := true, recurses := true, plainKeys := false, apart := false }
def RidesGapsSaid : Prop := ridesGapsRow.holds Try.pinned (OpenSpec.ofChange ridesGapsSpec)

/-- ITS FALSE NEIGHBOUR: 'it returns false'. Refute it at one input. -/
def ridesGapsWrong : ChangeSpec := { name := "ridesGaps", fn := fun _ => fun
  | [d1, d2] => { results := [.lit (.bool false)], args := [d1, d2] }
  | _ => none }
def RidesGapsWrongFalsely : Prop := ridesGapsRow.holds Try.pinned (OpenSpec.ofChange ridesGapsWrong)

/-- 'skiarealaw31.RidesLists': WHATEVER THE INPUT: true; the input reads as it did. -/
def ridesListsSpec : ChangeSpec := { name := "ridesLists", fn := fun _ => fun
  | [d1, d2, d3] => { results := [.lit (.bool true)], args := [d1, d2, d3] }
  | _ => none }
def ridesListsRow : OpenClaim := { program := "ytfghmpfiemmbgaa", sum := "a67ca1389ffdc952df833b08e26c6b967b2660060da870d3f6ac8ef74e26e3db", func := "skiarea/skiarealaw31.RidesLists", spec := "ridesLists", unfollowed := true, recurses := true, plainKeys := false, apart := false }
def RidesListsSaid : Prop := ridesListsRow.holds Try.pinned (OpenSpec.ofChange ridesListsSpec)

/-- ITS FALSE NEIGHBOUR: 'it returns false'. Refute it at one input. -/
def ridesListsWrong : ChangeSpec := { name := "ridesLists", fn := fun _ => fun
  | [d1, d2, d3] => { results := [.lit (.bool false)], args := [d1, d2, d3] }
  | _ => none }
def RidesListsWrongFalsely : Prop := ridesListsRow.holds Try.pinned (OpenSpec.ofChange ridesListsWrong)

/- THE SECOND FORM. 'bulk': how many values and letters a reading holds, each counted each time it is reached (what is shared counts as often as it is met; a slice's spare places count too). A statement '..UptoSaid' is the law's where the arguments, and the package variables that the reading takes, are together of bulk at most 1048576: NARROWER than '..Said'. Prove '..Said' where nothing that the law and all that it calls make is longer than what came in: it says more and counts as full. Else prove '..UptoSaid'. A law counts once. -/
mutual
def uptoBulk {H : Type} : DataW H → Nat
  | .lit (.string bytes) => bytes.length + 1
  | .lit _ => 1
  | .nil => 1
  | .ptr d => uptoBulk d + 1
  | .slice elems spare => uptoBulkAll elems + uptoBulkAll spare + 1
  | .agg parts => uptoBulkAll parts + 1
  | .iface _ d => uptoBulk d + 1
  | .map entries => uptoBulkEntries entries + 1
  | .held _ => 1
def uptoBulkAll {H : Type} : List (DataW H) → Nat
  | [] => 0
  | d :: r => uptoBulk d + uptoBulkAll r
def uptoBulkEntries {H : Type} : List (Lit × DataW H) → Nat
  | [] => 0
  | x :: r => uptoBulkEntry x + uptoBulkEntries r
def uptoBulkEntry {H : Type} : Lit × DataW H → Nat
  | (.string bytes, d) => bytes.length + uptoBulk d + 1
  | (_, d) => uptoBulk d + 1
 end
def uptoSmall : (H : Type) → List (DataW H) → Bool := fun _ ds => decide (uptoBulkAll ds ≤ 1048576)
def OpenSpec.upto (s : _root_.Go.ChangeSpec) : _root_.Go.OpenSpec := { _root_.Go.OpenSpec.ofChange s with cond := some uptoSmall }

/-- 'skiarealaw31.RidesRight', WHERE WHAT IT READS IS OF BULK AT MOST 1048576: true; the input reads as it did. -/
def ridesRightUptoRow : OpenClaim := { program := "ytfghmpfiemmbgaa", sum := "a67ca1389ffdc952df833b08e26c6b967b2660060da870d3f6ac8ef74e26e3db", func := "skiarea/skiarealaw31.RidesRight", spec := "ridesRight", unfollowed := true, recurses := true, plainKeys := false, apart := false, narrowed := true }
def RidesRightUptoSaid : Prop := ridesRightUptoRow.holds Try.pinned (OpenSpec.upto ridesRightSpec)

/-- 'skiarealaw31.RidesAdds', WHERE WHAT IT READS IS OF BULK AT MOST 1048576: true; the input reads as it did. -/
def ridesAddsUptoRow : OpenClaim := { program := "ytfghmpfiemmbgaa", sum := "a67ca1389ffdc952df833b08e26c6b967b2660060da870d3f6ac8ef74e26e3db", func := "skiarea/skiarealaw31.RidesAdds", spec := "ridesAdds", unfollowed := true, recurses := true, plainKeys := false, apart := false, narrowed := true }
def RidesAddsUptoSaid : Prop := ridesAddsUptoRow.holds Try.pinned (OpenSpec.upto ridesAddsSpec)

/-- 'skiarealaw31.RidesMerges', WHERE WHAT IT READS IS OF BULK AT MOST 1048576: true; the input reads as it did. -/
def ridesMergesUptoRow : OpenClaim := { program := "ytfghmpfiemmbgaa", sum := "a67ca1389ffdc952df833b08e26c6b967b2660060da870d3f6ac8ef74e26e3db", func := "skiarea/skiarealaw31.RidesMerges", spec := "ridesMerges", unfollowed := true, recurses := true, plainKeys := false, apart := false, narrowed := true }
def RidesMergesUptoSaid : Prop := ridesMergesUptoRow.holds Try.pinned (OpenSpec.upto ridesMergesSpec)

/-- 'skiarealaw31.RidesFull', WHERE WHAT IT READS IS OF BULK AT MOST 1048576: true; the input reads as it did. -/
def ridesFullUptoRow : OpenClaim := { program := "ytfghmpfiemmbgaa", sum := "a67ca1389ffdc952df833b08e26c6b967b2660060da870d3f6ac8ef74e26e3db", func := "skiarea/skiarealaw31.RidesFull", spec := "ridesFull", unfollowed := true, recurses := true, plainKeys := false, apart := false, narrowed := true }
def RidesFullUptoSaid : Prop := ridesFullUptoRow.holds Try.pinned (OpenSpec.upto ridesFullSpec)

/-- 'skiarealaw31.RidesMerge', WHERE WHAT IT READS IS OF BULK AT MOST 1048576: true; the input reads as it did. -/
def ridesMergeUptoRow : OpenClaim := { program := "ytfghmpfiemmbgaa", sum := "a67ca1389ffdc952df833b08e26c6b967b2660060da870d3f6ac8ef74e26e3db", func := "skiarea/skiarealaw31.RidesMerge", spec := "ridesMerge", unfollowed := true, recurses := true, plainKeys := false, apart := false, narrowed := true }
def RidesMergeUptoSaid : Prop := ridesMergeUptoRow.holds Try.pinned (OpenSpec.upto ridesMergeSpec)

/-- 'skiarealaw31.RidesOnce', WHERE WHAT IT READS IS OF BULK AT MOST 1048576: true; the input reads as it did. -/
def ridesOnceUptoRow : OpenClaim := { program := "ytfghmpfiemmbgaa", sum := "a67ca1389ffdc952df833b08e26c6b967b2660060da870d3f6ac8ef74e26e3db", func := "skiarea/skiarealaw31.RidesOnce", spec := "ridesOnce", unfollowed := true, recurses := true, plainKeys := false, apart := false, narrowed := true }
def RidesOnceUptoSaid : Prop := ridesOnceUptoRow.holds Try.pinned (OpenSpec.upto ridesOnceSpec)

/-- 'skiarealaw31.RidesGaps', WHERE WHAT IT READS IS OF BULK AT MOST 1048576: true; the input reads as it did. -/
def ridesGapsUptoRow : OpenClaim := { program := "ytfghmpfiemmbgaa", sum := "a67ca1389ffdc952df833b08e26c6b967b2660060da870d3f6ac8ef74e26e3db", func := "skiarea/skiarealaw31.RidesGaps", spec := "ridesGaps", unfollowed := true, recurses := true, plainKeys := false, apart := false, narrowed := true }
def RidesGapsUptoSaid : Prop := ridesGapsUptoRow.holds Try.pinned (OpenSpec.upto ridesGapsSpec)

/-- 'skiarealaw31.RidesLists', WHERE WHAT IT READS IS OF BULK AT MOST 1048576: true; the input reads as it did. -/
def ridesListsUptoRow : OpenClaim := { program := "ytfghmpfiemmbgaa", sum := "a67ca1389ffdc952df833b08e26c6b967b2660060da870d3f6ac8ef74e26e3db", func := "skiarea/skiarealaw31.RidesLists", spec := "ridesLists", unfollowed := true, recurses := true, plainKeys := false, apart := false, narrowed := true }
def RidesListsUptoSaid : Prop := ridesListsUptoRow.holds Try.pinned (OpenSpec.upto ridesListsSpec)

end Rows
end Go.Proofs.Ytfghmpfiemmbgaa
