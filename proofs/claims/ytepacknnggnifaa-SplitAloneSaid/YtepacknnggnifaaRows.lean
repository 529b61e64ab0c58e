/-
  No cell of these rows narrows 'for every input' (looked for: loops, veiled, ifaces, maps, wideKeys, modest, calm, conditions, laid).
  DERIVED. THE GIVEN ROWS OF THIS SEAT. 7 by the template 'for every input the law returns true; each argument reads behind the call as it read before'; 0 by the template 'total and deterministic' (their statements: YtepacknnggnifaaTotals.lean).
  GIVEN WITH THE SEED: the statements are not yours to turn. If you find one false, say at which input.
  Laid BY PROGRAM, IN A SANDBOX (cutbox-rows.mjs): the forced cells as the released guide's own fill.sh prints them over the translation c0277ddb33c4342f… (all of the seat's roots in one cut). By AI agents, Wed Nov 11 2026. No macro, syntax, notation, axiom, sorry.
-/
import Derived.Test.YtepacknnggnifaaChecked
import GoSem.Claim
import GoSem.ClaimJoined
import GoSem.ClaimMapViews
import Derived.JoinedTies
import Derived.KernelRfl
namespace Go.Proofs.Ytepacknnggnifaa
/- THE CELL 'sum', in the pinned program and in every row, IS THE sha256 OF THE DUMP (.gsa) THAT YtepacknnggnifaaProg.lean LOADS. Nothing in Lean hashes anything: it is a label: what it is worth is what the hold of that sum in a sandbox is worth. -/
noncomputable def Try.pinned : Pinned := { name := "ytepacknnggnifaa", sum := "c0277ddb33c4342fe5681331ab53a5bad206f107548bc3c1fa53b9e7a5b669de", checked := Try.checked }
namespace Rows
def none {H : Type} : Left H := { results := [], args := [] }

/-- 'skiarealaw34.SplitSplits': WHATEVER THE INPUT: true; the input reads as it did. -/
def splitSplitsSpec : ChangeSpec := { name := "splitSplits", fn := fun _ => fun
  | [d1, d2] => { results := [.lit (.bool true)], args := [d1, d2] }
  | _ => none }
def splitSplitsRow : OpenClaim := { program := "ytepacknnggnifaa", sum := "c0277ddb33c4342fe5681331ab53a5bad206f107548bc3c1fa53b9e7a5b669de", func := "skiarea/skiarealaw34.SplitSplits", spec := "splitSplits", unfollowed := true, recurses := true, named := ["math/bits.divideError", "math/bits.overflowError"], apart := false }
def SplitSplitsSaid : Prop := splitSplitsRow.holds Try.pinned (OpenSpec.ofChange splitSplitsSpec)

/-- ITS FALSE NEIGHBOUR: 'it returns false'. Refute it at one input. -/
def splitSplitsWrong : ChangeSpec := { name := "splitSplits", fn := fun _ => fun
  | [d1, d2] => { results := [.lit (.bool false)], args := [d1, d2] }
  | _ => none }
def SplitSplitsWrongFalsely : Prop := splitSplitsRow.holds Try.pinned (OpenSpec.ofChange splitSplitsWrong)

/-- 'skiarealaw34.SplitEven': WHATEVER THE INPUT: true; the input reads as it did. -/
def splitEvenSpec : ChangeSpec := { name := "splitEven", fn := fun _ => fun
  | [d1, d2, d3] => { results := [.lit (.bool true)], args := [d1, d2, d3] }
  | _ => none }
def splitEvenRow : OpenClaim := { program := "ytepacknnggnifaa", sum := "c0277ddb33c4342fe5681331ab53a5bad206f107548bc3c1fa53b9e7a5b669de", func := "skiarea/skiarealaw34.SplitEven", spec := "splitEven", unfollowed := true, recurses := true, named := ["math/bits.divideError", "math/bits.overflowError"], apart := false }
def SplitEvenSaid : Prop := splitEvenRow.holds Try.pinned (OpenSpec.ofChange splitEvenSpec)

/-- ITS FALSE NEIGHBOUR: 'it returns false'. Refute it at one input. -/
def splitEvenWrong : ChangeSpec := { name := "splitEven", fn := fun _ => fun
  | [d1, d2, d3] => { results := [.lit (.bool false)], args := [d1, d2, d3] }
  | _ => none }
def SplitEvenWrongFalsely : Prop := splitEvenRow.holds Try.pinned (OpenSpec.ofChange splitEvenWrong)

/-- 'skiarealaw34.SplitFair': WHATEVER THE INPUT: true; the input reads as it did. -/
def splitFairSpec : ChangeSpec := { name := "splitFair", fn := fun _ => fun
  | [d1, d2, d3] => { results := [.lit (.bool true)], args := [d1, d2, d3] }
  | _ => none }
def splitFairRow : OpenClaim := { program := "ytepacknnggnifaa", sum := "c0277ddb33c4342fe5681331ab53a5bad206f107548bc3c1fa53b9e7a5b669de", func := "skiarea/skiarealaw34.SplitFair", spec := "splitFair", unfollowed := true, recurses := true, named := ["math/bits.divideError", "math/bits.overflowError"], apart := false }
def SplitFairSaid : Prop := splitFairRow.holds Try.pinned (OpenSpec.ofChange splitFairSpec)

/-- ITS FALSE NEIGHBOUR: 'it returns false'. Refute it at one input. -/
def splitFairWrong : ChangeSpec := { name := "splitFair", fn := fun _ => fun
  | [d1, d2, d3] => { results := [.lit (.bool false)], args := [d1, d2, d3] }
  | _ => none }
def SplitFairWrongFalsely : Prop := splitFairRow.holds Try.pinned (OpenSpec.ofChange splitFairWrong)

/-- 'skiarealaw34.SplitAdds': WHATEVER THE INPUT: true; the input reads as it did. -/
def splitAddsSpec : ChangeSpec := { name := "splitAdds", fn := fun _ => fun
  | [d1, d2] => { results := [.lit (.bool true)], args := [d1, d2] }
  | _ => none }
def splitAddsRow : OpenClaim := { program := "ytepacknnggnifaa", sum := "c0277ddb33c4342fe5681331ab53a5bad206f107548bc3c1fa53b9e7a5b669de", func := "skiarea/skiarealaw34.SplitAdds", spec := "splitAdds", unfollowed := true, recurses := true, named := ["math/bits.divideError", "math/bits.overflowError"], apart := false }
def SplitAddsSaid : Prop := splitAddsRow.holds Try.pinned (OpenSpec.ofChange splitAddsSpec)

/-- ITS FALSE NEIGHBOUR: 'it returns false'. Refute it at one input. -/
def splitAddsWrong : ChangeSpec := { name := "splitAdds", fn := fun _ => fun
  | [d1, d2] => { results := [.lit (.bool false)], args := [d1, d2] }
  | _ => none }
def SplitAddsWrongFalsely : Prop := splitAddsRow.holds Try.pinned (OpenSpec.ofChange splitAddsWrong)

/-- 'skiarealaw34.SplitExact': WHATEVER THE INPUT: true; the input reads as it did. -/
def splitExactSpec : ChangeSpec := { name := "splitExact", fn := fun _ => fun
  | [d1, d2] => { results := [.lit (.bool true)], args := [d1, d2] }
  | _ => none }
def splitExactRow : OpenClaim := { program := "ytepacknnggnifaa", sum := "c0277ddb33c4342fe5681331ab53a5bad206f107548bc3c1fa53b9e7a5b669de", func := "skiarea/skiarealaw34.SplitExact", spec := "splitExact", unfollowed := true, recurses := true, named := ["math/bits.divideError", "math/bits.overflowError"], apart := false }
def SplitExactSaid : Prop := splitExactRow.holds Try.pinned (OpenSpec.ofChange splitExactSpec)

/-- ITS FALSE NEIGHBOUR: 'it returns false'. Refute it at one input. -/
def splitExactWrong : ChangeSpec := { name := "splitExact", fn := fun _ => fun
  | [d1, d2] => { results := [.lit (.bool false)], args := [d1, d2] }
  | _ => none }
def SplitExactWrongFalsely : Prop := splitExactRow.holds Try.pinned (OpenSpec.ofChange splitExactWrong)

/-- 'skiarealaw34.SplitSums': WHATEVER THE INPUT: true; the input reads as it did. -/
def splitSumsSpec : ChangeSpec := { name := "splitSums", fn := fun _ => fun
  | [d1, d2] => { results := [.lit (.bool true)], args := [d1, d2] }
  | _ => none }
def splitSumsRow : OpenClaim := { program := "ytepacknnggnifaa", sum := "c0277ddb33c4342fe5681331ab53a5bad206f107548bc3c1fa53b9e7a5b669de", func := "skiarea/skiarealaw34.SplitSums", spec := "splitSums", unfollowed := true, recurses := true, named := ["math/bits.divideError", "math/bits.overflowError"], apart := false }
def SplitSumsSaid : Prop := splitSumsRow.holds Try.pinned (OpenSpec.ofChange splitSumsSpec)

/-- ITS FALSE NEIGHBOUR: 'it returns false'. Refute it at one input. -/
def splitSumsWrong : ChangeSpec := { name := "splitSums", fn := fun _ => fun
  | [d1, d2] => { results := [.lit (.bool false)], args := [d1, d2] }
  | _ => none }
def SplitSumsWrongFalsely : Prop := splitSumsRow.holds Try.pinned (OpenSpec.ofChange splitSumsWrong)

/-- 'skiarealaw34.SplitAlone': WHATEVER THE INPUT: true; the input reads as it did. -/
def splitAloneSpec : ChangeSpec := { name := "splitAlone", fn := fun _ => fun
  | [d1, d2, d3] => { results := [.lit (.bool true)], args := [d1, d2, d3] }
  | _ => none }
def splitAloneRow : OpenClaim := { program := "ytepacknnggnifaa", sum := "c0277ddb33c4342fe5681331ab53a5bad206f107548bc3c1fa53b9e7a5b669de", func := "skiarea/skiarealaw34.SplitAlone", spec := "splitAlone", unfollowed := true, recurses := true, named := ["math/bits.divideError", "math/bits.overflowError"], apart := false }
def SplitAloneSaid : Prop := splitAloneRow.holds Try.pinned (OpenSpec.ofChange splitAloneSpec)

/-- ITS FALSE NEIGHBOUR: 'it returns false'. Refute it at one input. -/
def splitAloneWrong : ChangeSpec := { name := "splitAlone", fn := fun _ => fun
  | [d1, d2, d3] => { results := [.lit (.bool false)], args := [d1, d2, d3] }
  | _ => none }
def SplitAloneWrongFalsely : Prop := splitAloneRow.holds Try.pinned (OpenSpec.ofChange splitAloneWrong)

/- THE SECOND FORM. 'bulk': how many values and letters a reading holds, each counted each time it is reached (what is shared counts as often as it is met; a slice's spare places count too). A statement '..UptoSaid' is the law's where the arguments, and the package variables that the reading takes, are together of bulk at most 1048576: NARROWER than '..Said'. Prove '..Said' where nothing that the law and all that it calls make is longer than what came in: it says more and counts as full. Else prove '..UptoSaid'. A law counts once. -/
mutual
def uptoBulk {H : Type} : DataW H → Nat
  | .lit (.string bytes) => bytes.length + 1
  | .lit _ => 1
  | .nil => 1
  | .ptr d => uptoBulk d + 1
  | .slice elems spare => uptoBulkAll elems + uptoBulkAll spare + 1
  | .agg parts => uptoBulkAll parts + 1
  | .iface _ d => uptoBulk d + 1
  | .map entries => uptoBulkEntries entries + 1
  | .held _ => 1
def uptoBulkAll {H : Type} : List (DataW H) → Nat
  | [] => 0
  | d :: r => uptoBulk d + uptoBulkAll r
def uptoBulkEntries {H : Type} : List (Lit × DataW H) → Nat
  | [] => 0
  | x :: r => uptoBulkEntry x + uptoBulkEntries r
def uptoBulkEntry {H : Type} : Lit × DataW H → Nat
  | (.string bytes, d) => bytes.length + uptoBulk d + 1
  | (_, d) => uptoBulk d + 1
 end
def uptoSmall : (H : Type) → List (DataW H) → Bool := fun _ ds => decide (uptoBulkAll ds ≤ 1048576)
def OpenSpec.upto (s : _root_.Go.ChangeSpec) : _root_.Go.OpenSpec := { _root_.Go.OpenSpec.ofChange s with cond := some uptoSmall }

/-- 'skiarealaw34.SplitSplits', WHERE WHAT IT READS IS OF BULK AT MOST 1048576: true; the input reads as it did. -/
def splitSplitsUptoRow : OpenClaim := { program := "ytepacknnggnifaa", sum := "c0277ddb33c4342fe5681331ab53a5bad206f107548bc3c1fa53b9e7a5b669de", func := "skiarea/skiarealaw34.SplitSplits", spec := "splitSplits", unfollowed := true, recurses := true, named := ["math/bits.divideError", "math/bits.overflowError"], apart := false, narrowed := true }
def SplitSplitsUptoSaid : Prop := splitSplitsUptoRow.holds Try.pinned (OpenSpec.upto splitSplitsSpec)

/-- 'skiarealaw34.SplitEven', WHERE WHAT IT READS IS OF BULK AT MOST 1048576: true; the input reads as it did. -/
def splitEvenUptoRow : OpenClaim := { program := "ytepacknnggnifaa", sum := "c0277ddb33c4342fe5681331ab53a5bad206f107548bc3c1fa53b9e7a5b669de", func := "skiarea/skiarealaw34.SplitEven", spec := "splitEven", unfollowed := true, recurses := true, named := ["math/bits.divideError", "math/bits.overflowError"], apart := false, narrowed := true }
def SplitEvenUptoSaid : Prop := splitEvenUptoRow.holds Try.pinned (OpenSpec.upto splitEvenSpec)

/-- 'skiarealaw34.SplitFair', WHERE WHAT IT READS IS OF BULK AT MOST 1048576: true; the input reads as it did. -/
def splitFairUptoRow : OpenClaim := { program := "ytepacknnggnifaa", sum := "c0277ddb33c4342fe5681331ab53a5bad206f107548bc3c1fa53b9e7a5b669de", func := "skiarea/skiarealaw34.SplitFair", spec := "splitFair", unfollowed := true, recurses := true, named := ["math/bits.divideError", "math/bits.overflowError"], apart := false, narrowed := true }
def SplitFairUptoSaid : Prop := splitFairUptoRow.holds Try.pinned (OpenSpec.upto splitFairSpec)

/-- 'skiarealaw34.SplitAdds', WHERE WHAT IT READS IS OF BULK AT MOST 1048576: true; the input reads as it did. -/
def splitAddsUptoRow : OpenClaim := { program := "ytepacknnggnifaa", sum := "c0277ddb33c4342fe5681331ab53a5bad206f107548bc3c1fa53b9e7a5b669de", func := "skiarea/skiarealaw34.SplitAdds", spec := "splitAdds", unfollowed := true, recurses := true, named := ["math/bits.divideError", "math/bits.overflowError"], apart := false, narrowed := true }
def SplitAddsUptoSaid : Prop := splitAddsUptoRow.holds Try.pinned (OpenSpec.upto splitAddsSpec)

/-- 'skiarealaw34.SplitExact', WHERE WHAT IT READS IS OF BULK AT MOST 1048576: true; the input reads as it did. -/
def splitExactUptoRow : OpenClaim := { program := "ytepacknnggnifaa", sum := "c0277ddb33c4342fe5681331ab53a5bad206f107548bc3c1fa53b9e7a5b669de", func := "skiarea/skiarealaw34.SplitExact", spec := "splitExact", unfollowed := true, recurses := true, named := ["math/bits.divideError", "math/bits.overflowError"], apart := false, narrowed := true }
def SplitExactUptoSaid : Prop := splitExactUptoRow.holds Try.pinned (OpenSpec.upto splitExactSpec)

/-- 'skiarealaw34.SplitSums', WHERE WHAT IT READS IS OF BULK AT MOST 1048576: true; the input reads as it did. -/
def splitSumsUptoRow : OpenClaim := { program := "ytepacknnggnifaa", sum := "c0277ddb33c4342fe5681331ab53a5bad206f107548bc3c1fa53b9e7a5b669de", func := "skiarea/skiarealaw34.SplitSums", spec := "splitSums", unfollowed := true, recurses := true, named := ["math/bits.divideError", "math/bits.overflowError"], apart := false, narrowed := true }
def SplitSumsUptoSaid : Prop := splitSumsUptoRow.holds Try.pinned (OpenSpec.upto splitSumsSpec)

/-- 'skiarealaw34.SplitAlone', WHERE WHAT IT READS IS OF BULK AT MOST 1048576: true; the input reads as it did. -/
def splitAloneUptoRow : OpenClaim := { program := "ytepacknnggnifaa", sum := "c0277ddb33c4342fe5681331ab53a5bad206f107548bc3c1fa53b9e7a5b669de", func := "skiarea/skiarealaw34.SplitAlone", spec := "splitAlone", unfollowed := true, recurses := true, named := ["math/bits.divideError", "math/bits.overflowError"], apart := false, narrowed := true }
def SplitAloneUptoSaid : Prop := splitAloneUptoRow.holds Try.pinned (OpenSpec.upto splitAloneSpec)

end Rows
end Go.Proofs.Ytepacknnggnifaa
