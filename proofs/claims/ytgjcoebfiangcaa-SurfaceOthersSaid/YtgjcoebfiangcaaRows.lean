/-
  No cell of these rows narrows 'for every input' (looked for: loops, veiled, ifaces, maps, wideKeys, modest, calm, conditions, laid).
  DERIVED. THE GIVEN ROWS OF THIS SEAT. 8 by the template 'for every input the law returns true; each argument reads behind the call as it read before'; 0 by the template 'total and deterministic' (their statements: YtgjcoebfiangcaaTotals.lean).
  GIVEN WITH THE SEED: the statements are not yours to turn. If you find one false, say at which input.
  Laid BY PROGRAM, IN A SANDBOX (cutbox-rows.mjs): the forced cells as the released guide's own fill.sh prints them over the translation f4a62b5998827573… (all of the seat's roots in one cut). By AI agents, Wed Nov 11 2026. No macro, syntax, notation, axiom, sorry.
-/
import Derived.Test.YtgjcoebfiangcaaChecked
import GoSem.Claim
import GoSem.ClaimJoined
import GoSem.ClaimMapViews
import Derived.JoinedTies
import Derived.KernelRfl
namespace Go.Proofs.Ytgjcoebfiangcaa
/- THE CELL 'sum', in the pinned program and in every row, IS THE sha256 OF THE DUMP (.gsa) THAT YtgjcoebfiangcaaProg.lean LOADS. Nothing in Lean hashes anything: it is a label: what it is worth is what the hold of that sum in a sandbox is worth. -/
noncomputable def Try.pinned : Pinned := { name := "ytgjcoebfiangcaa", sum := "f4a62b5998827573f387b8d36381e1d0d108c7bce100b2d706e667e9224e222a", checked := Try.checked }
namespace Rows
def none {H : Type} : Left H := { results := [], args := [] }

/-- 'skiarealaw48.SurfaceChecks': WHATEVER THE INPUT: true; the input reads as it did. -/
def surfaceChecksSpec : ChangeSpec := { name := "surfaceChecks", fn := fun _ => fun
  | [d] => { results := [.lit (.bool true)], args := [d] }
  | _ => none }
def surfaceChecksRow : OpenClaim := { program := "ytgjcoebfiangcaa", sum := "f4a62b5998827573f387b8d36381e1d0d108c7bce100b2d706e667e9224e222a", func := "skiarea/skiarealaw48.SurfaceChecks", spec := "surfaceChecks", unfollowed := true, recurses := true, apart := false }
def SurfaceChecksSaid : Prop := surfaceChecksRow.holds Try.pinned (OpenSpec.ofChange surfaceChecksSpec)

/-- ITS FALSE NEIGHBOUR: 'it returns false'. Refute it at one input. -/
def surfaceChecksWrong : ChangeSpec := { name := "surfaceChecks", fn := fun _ => fun
  | [d] => { results := [.lit (.bool false)], args := [d] }
  | _ => none }
def SurfaceChecksWrongFalsely : Prop := surfaceChecksRow.holds Try.pinned (OpenSpec.ofChange surfaceChecksWrong)

/-- 'skiarealaw48.SurfaceGrooms': WHATEVER THE INPUT: true; the input reads as it did. -/
def surfaceGroomsSpec : ChangeSpec := { name := "surfaceGrooms", fn := fun _ => fun
  | [d1, d2, d3] => { results := [.lit (.bool true)], args := [d1, d2, d3] }
  | _ => none }
def surfaceGroomsRow : OpenClaim := { program := "ytgjcoebfiangcaa", sum := "f4a62b5998827573f387b8d36381e1d0d108c7bce100b2d706e667e9224e222a", func := "skiarea/skiarealaw48.SurfaceGrooms", spec := "surfaceGrooms", unfollowed := true, recurses := true, apart := false }
def SurfaceGroomsSaid : Prop := surfaceGroomsRow.holds Try.pinned (OpenSpec.ofChange surfaceGroomsSpec)

/-- ITS FALSE NEIGHBOUR: 'it returns false'. Refute it at one input. -/
def surfaceGroomsWrong : ChangeSpec := { name := "surfaceGrooms", fn := fun _ => fun
  | [d1, d2, d3] => { results := [.lit (.bool false)], args := [d1, d2, d3] }
  | _ => none }
def SurfaceGroomsWrongFalsely : Prop := surfaceGroomsRow.holds Try.pinned (OpenSpec.ofChange surfaceGroomsWrong)

/-- 'skiarealaw48.SurfaceDescends': WHATEVER THE INPUT: true; the input reads as it did. -/
def surfaceDescendsSpec : ChangeSpec := { name := "surfaceDescends", fn := fun _ => fun
  | [d1, d2, d3] => { results := [.lit (.bool true)], args := [d1, d2, d3] }
  | _ => none }
def surfaceDescendsRow : OpenClaim := { program := "ytgjcoebfiangcaa", sum := "f4a62b5998827573f387b8d36381e1d0d108c7bce100b2d706e667e9224e222a", func := "skiarea/skiarealaw48.SurfaceDescends", spec := "surfaceDescends", unfollowed := true, recurses := true, apart := false }
def SurfaceDescendsSaid : Prop := surfaceDescendsRow.holds Try.pinned (OpenSpec.ofChange surfaceDescendsSpec)

/-- ITS FALSE NEIGHBOUR: 'it returns false'. Refute it at one input. -/
def surfaceDescendsWrong : ChangeSpec := { name := "surfaceDescends", fn := fun _ => fun
  | [d1, d2, d3] => { results := [.lit (.bool false)], args := [d1, d2, d3] }
  | _ => none }
def SurfaceDescendsWrongFalsely : Prop := surfaceDescendsRow.holds Try.pinned (OpenSpec.ofChange surfaceDescendsWrong)

/-- 'skiarealaw48.SurfaceQualities': WHATEVER THE INPUT: true; the input reads as it did. -/
def surfaceQualitiesSpec : ChangeSpec := { name := "surfaceQualities", fn := fun _ => fun
  | [d1, d2] => { results := [.lit (.bool true)], args := [d1, d2] }
  | _ => none }
def surfaceQualitiesRow : OpenClaim := { program := "ytgjcoebfiangcaa", sum := "f4a62b5998827573f387b8d36381e1d0d108c7bce100b2d706e667e9224e222a", func := "skiarea/skiarealaw48.SurfaceQualities", spec := "surfaceQualities", unfollowed := true, recurses := true, apart := false }
def SurfaceQualitiesSaid : Prop := surfaceQualitiesRow.holds Try.pinned (OpenSpec.ofChange surfaceQualitiesSpec)

/-- ITS FALSE NEIGHBOUR: 'it returns false'. Refute it at one input. -/
def surfaceQualitiesWrong : ChangeSpec := { name := "surfaceQualities", fn := fun _ => fun
  | [d1, d2] => { results := [.lit (.bool false)], args := [d1, d2] }
  | _ => none }
def SurfaceQualitiesWrongFalsely : Prop := surfaceQualitiesRow.holds Try.pinned (OpenSpec.ofChange surfaceQualitiesWrong)

/-- 'skiarealaw48.SurfaceWorsts': WHATEVER THE INPUT: true; the input reads as it did. -/
def surfaceWorstsSpec : ChangeSpec := { name := "surfaceWorsts", fn := fun _ => fun
  | [d1, d2, d3] => { results := [.lit (.bool true)], args := [d1, d2, d3] }
  | _ => none }
def surfaceWorstsRow : OpenClaim := { program := "ytgjcoebfiangcaa", sum := "f4a62b5998827573f387b8d36381e1d0d108c7bce100b2d706e667e9224e222a", func := "skiarea/skiarealaw48.SurfaceWorsts", spec := "surfaceWorsts", unfollowed := true, recurses := true, apart := false }
def SurfaceWorstsSaid : Prop := surfaceWorstsRow.holds Try.pinned (OpenSpec.ofChange surfaceWorstsSpec)

/-- ITS FALSE NEIGHBOUR: 'it returns false'. Refute it at one input. -/
def surfaceWorstsWrong : ChangeSpec := { name := "surfaceWorsts", fn := fun _ => fun
  | [d1, d2, d3] => { results := [.lit (.bool false)], args := [d1, d2, d3] }
  | _ => none }
def SurfaceWorstsWrongFalsely : Prop := surfaceWorstsRow.holds Try.pinned (OpenSpec.ofChange surfaceWorstsWrong)

/-- 'skiarealaw48.SurfaceWears': WHATEVER THE INPUT: true; the input reads as it did. -/
def surfaceWearsSpec : ChangeSpec := { name := "surfaceWears", fn := fun _ => fun
  | [d1, d2, d3, d4] => { results := [.lit (.bool true)], args := [d1, d2, d3, d4] }
  | _ => none }
def surfaceWearsRow : OpenClaim := { program := "ytgjcoebfiangcaa", sum := "f4a62b5998827573f387b8d36381e1d0d108c7bce100b2d706e667e9224e222a", func := "skiarea/skiarealaw48.SurfaceWears", spec := "surfaceWears", unfollowed := true, recurses := true, apart := false }
def SurfaceWearsSaid : Prop := surfaceWearsRow.holds Try.pinned (OpenSpec.ofChange surfaceWearsSpec)

/-- ITS FALSE NEIGHBOUR: 'it returns false'. Refute it at one input. -/
def surfaceWearsWrong : ChangeSpec := { name := "surfaceWears", fn := fun _ => fun
  | [d1, d2, d3, d4] => { results := [.lit (.bool false)], args := [d1, d2, d3, d4] }
  | _ => none }
def SurfaceWearsWrongFalsely : Prop := surfaceWearsRow.holds Try.pinned (OpenSpec.ofChange surfaceWearsWrong)

/-- 'skiarealaw48.SurfaceOthers': WHATEVER THE INPUT: true; the input reads as it did. -/
def surfaceOthersSpec : ChangeSpec := { name := "surfaceOthers", fn := fun _ => fun
  | [d1, d2, d3, d4] => { results := [.lit (.bool true)], args := [d1, d2, d3, d4] }
  | _ => none }
def surfaceOthersRow : OpenClaim := { program := "ytgjcoebfiangcaa", sum := "f4a62b5998827573f387b8d36381e1d0d108c7bce100b2d706e667e9224e222a", func := "skiarea/skiarealaw48.SurfaceOthers", spec := "surfaceOthers", unfollowed := true, recurses := true, apart := false }
def SurfaceOthersSaid : Prop := surfaceOthersRow.holds Try.pinned (OpenSpec.ofChange surfaceOthersSpec)

/-- ITS FALSE NEIGHBOUR: 'it returns false'. Refute it at one input. -/
def surfaceOthersWrong : ChangeSpec := { name := "surfaceOthers", fn := fun _ => fun
  | [d1, d2, d3, d4] => { results := [.lit (.bool false)], args := [d1, d2, d3, d4] }
  | _ => none }
def SurfaceOthersWrongFalsely : Prop := surfaceOthersRow.holds Try.pinned (OpenSpec.ofChange surfaceOthersWrong)

/-- 'skiarealaw48.SurfaceTwice': WHATEVER THE INPUT: true; the input reads as it did. -/
def surfaceTwiceSpec : ChangeSpec := { name := "surfaceTwice", fn := fun _ => fun
  | [d1, d2, d3, d4] => { results := [.lit (.bool true)], args := [d1, d2, d3, d4] }
  | _ => none }
def surfaceTwiceRow : OpenClaim := { program := "ytgjcoebfiangcaa", sum := "f4a62b5998827573f387b8d36381e1d0d108c7bce100b2d706e667e9224e222a", func := "skiarea/skiarealaw48.SurfaceTwice", spec := "surfaceTwice", unfollowed := true, recurses := true, apart := false }
def SurfaceTwiceSaid : Prop := surfaceTwiceRow.holds Try.pinned (OpenSpec.ofChange surfaceTwiceSpec)

/-- ITS FALSE NEIGHBOUR: 'it returns false'. Refute it at one input. -/
def surfaceTwiceWrong : ChangeSpec := { name := "surfaceTwice", fn := fun _ => fun
  | [d1, d2, d3, d4] => { results := [.lit (.bool false)], args := [d1, d2, d3, d4] }
  | _ => none }
def SurfaceTwiceWrongFalsely : Prop := surfaceTwiceRow.holds Try.pinned (OpenSpec.ofChange surfaceTwiceWrong)

/- THE SECOND FORM. 'bulk': how many values and letters a reading holds, each counted each time it is reached (what is shared counts as often as it is met; a slice's spare places count too). A statement '..UptoSaid' is the law's where the arguments, and the package variables that the reading takes, are together of bulk at most 1048576: NARROWER than '..Said'. Prove '..Said' where nothing that the law and all that it calls make is longer than what came in: it says more and counts as full. Else prove '..UptoSaid'. A law counts once. -/
mutual
def uptoBulk {H : Type} : DataW H → Nat
  | .lit (.string bytes) => bytes.length + 1
  | .lit _ => 1
  | .nil => 1
  | .ptr d => uptoBulk d + 1
  | .slice elems spare => uptoBulkAll elems + uptoBulkAll spare + 1
  | .agg parts => uptoBulkAll parts + 1
  | .iface _ d => uptoBulk d + 1
  | .map entries => uptoBulkEntries entries + 1
  | .held _ => 1
def uptoBulkAll {H : Type} : List (DataW H) → Nat
  | [] => 0
  | d :: r => uptoBulk d + uptoBulkAll r
def uptoBulkEntries {H : Type} : List (Lit × DataW H) → Nat
  | [] => 0
  | x :: r => uptoBulkEntry x + uptoBulkEntries r
def uptoBulkEntry {H : Type} : Lit × DataW H → Nat
  | (.string bytes, d) => bytes.length + uptoBulk d + 1
  | (_, d) => uptoBulk d + 1
 end
def uptoSmall : (H : Type) → List (DataW H) → Bool := fun _ ds => decide (uptoBulkAll ds ≤ 1048576)
def OpenSpec.upto (s : _root_.Go.ChangeSpec) : _root_.Go.OpenSpec := { _root_.Go.OpenSpec.ofChange s with cond := some uptoSmall }

/-- 'skiarealaw48.SurfaceChecks', WHERE WHAT IT READS IS OF BULK AT MOST 1048576: true; the input reads as it did. -/
def surfaceChecksUptoRow : OpenClaim := { program := "ytgjcoebfiangcaa", sum := "f4a62b5998827573f387b8d36381e1d0d108c7bce100b2d706e667e9224e222a", func := "skiarea/skiarealaw48.SurfaceChecks", spec := "surfaceChecks", unfollowed := true, recurses := true, apart := false, narrowed := true }
def SurfaceChecksUptoSaid : Prop := surfaceChecksUptoRow.holds Try.pinned (OpenSpec.upto surfaceChecksSpec)

/-- 'skiarealaw48.SurfaceGrooms', WHERE WHAT IT READS IS OF BULK AT MOST 1048576: true; the input reads as it did. -/
def surfaceGroomsUptoRow : OpenClaim := { program := "ytgjcoebfiangcaa", sum := "f4a62b5998827573f387b8d36381e1d0d108c7bce100b2d706e667e9224e222a", func := "skiarea/skiarealaw48.SurfaceGrooms", spec := "surfaceGrooms", unfollowed := true, recurses := true, apart := false, narrowed := true }
def SurfaceGroomsUptoSaid : Prop := surfaceGroomsUptoRow.holds Try.pinned (OpenSpec.upto surfaceGroomsSpec)

/-- 'skiarealaw48.SurfaceDescends', WHERE WHAT IT READS IS OF BULK AT MOST 1048576: true; the input reads as it did. -/
def surfaceDescendsUptoRow : OpenClaim := { program := "ytgjcoebfiangcaa", sum := "f4a62b5998827573f387b8d36381e1d0d108c7bce100b2d706e667e9224e222a", func := "skiarea/skiarealaw48.SurfaceDescends", spec := "surfaceDescends", unfollowed := true, recurses := true, apart := false, narrowed := true }
def SurfaceDescendsUptoSaid : Prop := surfaceDescendsUptoRow.holds Try.pinned (OpenSpec.upto surfaceDescendsSpec)

/-- 'skiarealaw48.SurfaceQualities', WHERE WHAT IT READS IS OF BULK AT MOST 1048576: true; the input reads as it did. -/
def surfaceQualitiesUptoRow : OpenClaim := { program := "ytgjcoebfiangcaa", sum := "f4a62b5998827573f387b8d36381e1d0d108c7bce100b2d706e667e9224e222a", func := "skiarea/skiarealaw48.SurfaceQualities", spec := "surfaceQualities", unfollowed := true, recurses := true, apart := false, narrowed := true }
def SurfaceQualitiesUptoSaid : Prop := surfaceQualitiesUptoRow.holds Try.pinned (OpenSpec.upto surfaceQualitiesSpec)

/-- 'skiarealaw48.SurfaceWorsts', WHERE WHAT IT READS IS OF BULK AT MOST 1048576: true; the input reads as it did. -/
def surfaceWorstsUptoRow : OpenClaim := { program := "ytgjcoebfiangcaa", sum := "f4a62b5998827573f387b8d36381e1d0d108c7bce100b2d706e667e9224e222a", func := "skiarea/skiarealaw48.SurfaceWorsts", spec := "surfaceWorsts", unfollowed := true, recurses := true, apart := false, narrowed := true }
def SurfaceWorstsUptoSaid : Prop := surfaceWorstsUptoRow.holds Try.pinned (OpenSpec.upto surfaceWorstsSpec)

/-- 'skiarealaw48.SurfaceWears', WHERE WHAT IT READS IS OF BULK AT MOST 1048576: true; the input reads as it did. -/
def surfaceWearsUptoRow : OpenClaim := { program := "ytgjcoebfiangcaa", sum := "f4a62b5998827573f387b8d36381e1d0d108c7bce100b2d706e667e9224e222a", func := "skiarea/skiarealaw48.SurfaceWears", spec := "surfaceWears", unfollowed := true, recurses := true, apart := false, narrowed := true }
def SurfaceWearsUptoSaid : Prop := surfaceWearsUptoRow.holds Try.pinned (OpenSpec.upto surfaceWearsSpec)

/-- 'skiarealaw48.SurfaceOthers', WHERE WHAT IT READS IS OF BULK AT MOST 1048576: true; the input reads as it did. -/
def surfaceOthersUptoRow : OpenClaim := { program := "ytgjcoebfiangcaa", sum := "f4a62b5998827573f387b8d36381e1d0d108c7bce100b2d706e667e9224e222a", func := "skiarea/skiarealaw48.SurfaceOthers", spec := "surfaceOthers", unfollowed := true, recurses := true, apart := false, narrowed := true }
def SurfaceOthersUptoSaid : Prop := surfaceOthersUptoRow.holds Try.pinned (OpenSpec.upto surfaceOthersSpec)

/-- 'skiarealaw48.SurfaceTwice', WHERE WHAT IT READS IS OF BULK AT MOST 1048576: true; the input reads as it did. -/
def surfaceTwiceUptoRow : OpenClaim := { program := "ytgjcoebfiangcaa", sum := "f4a62b5998827573f387b8d36381e1d0d108c7bce100b2d706e667e9224e222a", func := "skiarea/skiarealaw48.SurfaceTwice", spec := "surfaceTwice", unfollowed := true, recurses := true, apart := false, narrowed := true }
def SurfaceTwiceUptoSaid : Prop := surfaceTwiceUptoRow.holds Try.pinned (OpenSpec.upto surfaceTwiceSpec)

end Rows
end Go.Proofs.Ytgjcoebfiangcaa
