/-
  No cell of these rows narrows 'for every input' (looked for: loops, veiled, ifaces, maps, wideKeys, modest, calm, conditions, laid).
  DERIVED. THE GIVEN ROWS OF THIS SEAT. 7 by the template 'for every input the law returns true; each argument reads behind the call as it read before'; 0 by the template 'total and deterministic' (their statements: YtbglmocgijlomaaTotals.lean).
  GIVEN WITH THE SEED: the statements are not yours to turn. If you find one false, say at which input.
  Laid BY PROGRAM, IN A SANDBOX (cutbox-rows.mjs): the forced cells as the released guide's own fill.sh prints them over the translation daadf89ec40b7ec6… (all of the seat's roots in one cut). By AI agents, Wed Nov 11 2026. No macro, syntax, notation, axiom, sorry.
-/
import Derived.Test.YtbglmocgijlomaaChecked
import GoSem.Claim
import GoSem.ClaimJoined
import GoSem.ClaimMapViews
import Derived.JoinedTies
import Derived.KernelRfl
namespace Go.Proofs.Ytbglmocgijlomaa
/- THE CELL 'sum', in the pinned program and in every row, IS THE sha256 OF THE DUMP (.gsa) THAT YtbglmocgijlomaaProg.lean LOADS. Nothing in Lean hashes anything: it is a label: what it is worth is what the hold of that sum in a sandbox is worth. -/
noncomputable def Try.pinned : Pinned := { name := "ytbglmocgijlomaa", sum := "daadf89ec40b7ec691c625a7203898adbe05e9c8a75d53e9705e3f94e6c028ae", checked := Try.checked }
namespace Rows
def none {H : Type} : Left H := { results := [], args := [] }

/-- 'skiarealaw35.RevenueChecks': WHATEVER THE INPUT: true; the input reads as it did. -/
def revenueChecksSpec : ChangeSpec := { name := "revenueChecks", fn := fun _ => fun
  | [d] => { results := [.lit (.bool true)], args := [d] }
  | _ => none }
def revenueChecksRow : OpenClaim := { program := "ytbglmocgijlomaa", sum := "daadf89ec40b7ec691c625a7203898adbe05e9c8a75d53e9705e3f94e6c028ae", func := "skiarea/skiarealaw35.RevenueChecks", spec := "revenueChecks", unfollowed := true, recurses := true, named := ["math/bits.divideError", "math/bits.overflowError"], apart := false }
def RevenueChecksSaid : Prop := revenueChecksRow.holds Try.pinned (OpenSpec.ofChange revenueChecksSpec)

/-- ITS FALSE NEIGHBOUR: 'it returns false'. Refute it at one input. -/
def revenueChecksWrong : ChangeSpec := { name := "revenueChecks", fn := fun _ => fun
  | [d] => { results := [.lit (.bool false)], args := [d] }
  | _ => none }
def RevenueChecksWrongFalsely : Prop := revenueChecksRow.holds Try.pinned (OpenSpec.ofChange revenueChecksWrong)

/-- 'skiarealaw35.RevenuePoints': WHATEVER THE INPUT: true; the input reads as it did. -/
def revenuePointsSpec : ChangeSpec := { name := "revenuePoints", fn := fun _ => fun
  | [d1, d2] => { results := [.lit (.bool true)], args := [d1, d2] }
  | _ => none }
def revenuePointsRow : OpenClaim := { program := "ytbglmocgijlomaa", sum := "daadf89ec40b7ec691c625a7203898adbe05e9c8a75d53e9705e3f94e6c028ae", func := "skiarea/skiarealaw35.RevenuePoints", spec := "revenuePoints", unfollowed := true, recurses := true, named := ["math/bits.divideError", "math/bits.overflowError"], apart := false }
def RevenuePointsSaid : Prop := revenuePointsRow.holds Try.pinned (OpenSpec.ofChange revenuePointsSpec)

/-- ITS FALSE NEIGHBOUR: 'it returns false'. Refute it at one input. -/
def revenuePointsWrong : ChangeSpec := { name := "revenuePoints", fn := fun _ => fun
  | [d1, d2] => { results := [.lit (.bool false)], args := [d1, d2] }
  | _ => none }
def RevenuePointsWrongFalsely : Prop := revenuePointsRow.holds Try.pinned (OpenSpec.ofChange revenuePointsWrong)

/-- 'skiarealaw35.RevenueShares': WHATEVER THE INPUT: true; the input reads as it did. -/
def revenueSharesSpec : ChangeSpec := { name := "revenueShares", fn := fun _ => fun
  | [d1, d2] => { results := [.lit (.bool true)], args := [d1, d2] }
  | _ => none }
def revenueSharesRow : OpenClaim := { program := "ytbglmocgijlomaa", sum := "daadf89ec40b7ec691c625a7203898adbe05e9c8a75d53e9705e3f94e6c028ae", func := "skiarea/skiarealaw35.RevenueShares", spec := "revenueShares", unfollowed := true, recurses := true, named := ["math/bits.divideError", "math/bits.overflowError"], apart := false }
def RevenueSharesSaid : Prop := revenueSharesRow.holds Try.pinned (OpenSpec.ofChange revenueSharesSpec)

/-- ITS FALSE NEIGHBOUR: 'it returns false'. Refute it at one input. -/
def revenueSharesWrong : ChangeSpec := { name := "revenueShares", fn := fun _ => fun
  | [d1, d2] => { results := [.lit (.bool false)], args := [d1, d2] }
  | _ => none }
def RevenueSharesWrongFalsely : Prop := revenueSharesRow.holds Try.pinned (OpenSpec.ofChange revenueSharesWrong)

/-- 'skiarealaw35.RevenueAll': WHATEVER THE INPUT: true; the input reads as it did. -/
def revenueAllSpec : ChangeSpec := { name := "revenueAll", fn := fun _ => fun
  | [d1, d2] => { results := [.lit (.bool true)], args := [d1, d2] }
  | _ => none }
def revenueAllRow : OpenClaim := { program := "ytbglmocgijlomaa", sum := "daadf89ec40b7ec691c625a7203898adbe05e9c8a75d53e9705e3f94e6c028ae", func := "skiarea/skiarealaw35.RevenueAll", spec := "revenueAll", unfollowed := true, recurses := true, named := ["math/bits.divideError", "math/bits.overflowError"], apart := false }
def RevenueAllSaid : Prop := revenueAllRow.holds Try.pinned (OpenSpec.ofChange revenueAllSpec)

/-- ITS FALSE NEIGHBOUR: 'it returns false'. Refute it at one input. -/
def revenueAllWrong : ChangeSpec := { name := "revenueAll", fn := fun _ => fun
  | [d1, d2] => { results := [.lit (.bool false)], args := [d1, d2] }
  | _ => none }
def RevenueAllWrongFalsely : Prop := revenueAllRow.holds Try.pinned (OpenSpec.ofChange revenueAllWrong)

/-- 'skiarealaw35.RevenueOthers': WHATEVER THE INPUT: true; the input reads as it did. -/
def revenueOthersSpec : ChangeSpec := { name := "revenueOthers", fn := fun _ => fun
  | [d1, d2] => { results := [.lit (.bool true)], args := [d1, d2] }
  | _ => none }
def revenueOthersRow : OpenClaim := { program := "ytbglmocgijlomaa", sum := "daadf89ec40b7ec691c625a7203898adbe05e9c8a75d53e9705e3f94e6c028ae", func := "skiarea/skiarealaw35.RevenueOthers", spec := "revenueOthers", unfollowed := true, recurses := true, named := ["math/bits.divideError", "math/bits.overflowError"], apart := false }
def RevenueOthersSaid : Prop := revenueOthersRow.holds Try.pinned (OpenSpec.ofChange revenueOthersSpec)

/-- ITS FALSE NEIGHBOUR: 'it returns false'. Refute it at one input. -/
def revenueOthersWrong : ChangeSpec := { name := "revenueOthers", fn := fun _ => fun
  | [d1, d2] => { results := [.lit (.bool false)], args := [d1, d2] }
  | _ => none }
def RevenueOthersWrongFalsely : Prop := revenueOthersRow.holds Try.pinned (OpenSpec.ofChange revenueOthersWrong)

/-- 'skiarealaw35.RevenueSum': WHATEVER THE INPUT: true; the input reads as it did. -/
def revenueSumSpec : ChangeSpec := { name := "revenueSum", fn := fun _ => fun
  | [d1, d2, d3] => { results := [.lit (.bool true)], args := [d1, d2, d3] }
  | _ => none }
def revenueSumRow : OpenClaim := { program := "ytbglmocgijlomaa", sum := "daadf89ec40b7ec691c625a7203898adbe05e9c8a75d53e9705e3f94e6c028ae", func := "skiarea/skiarealaw35.RevenueSum", spec := "revenueSum", unfollowed := true, recurses := true, named := ["math/bits.divideError", "math/bits.overflowError"], apart := false }
def RevenueSumSaid : Prop := revenueSumRow.holds Try.pinned (OpenSpec.ofChange revenueSumSpec)

/-- ITS FALSE NEIGHBOUR: 'it returns false'. Refute it at one input. -/
def revenueSumWrong : ChangeSpec := { name := "revenueSum", fn := fun _ => fun
  | [d1, d2, d3] => { results := [.lit (.bool false)], args := [d1, d2, d3] }
  | _ => none }
def RevenueSumWrongFalsely : Prop := revenueSumRow.holds Try.pinned (OpenSpec.ofChange revenueSumWrong)

/-- 'skiarealaw35.RevenueWhole': WHATEVER THE INPUT: true; the input reads as it did. -/
def revenueWholeSpec : ChangeSpec := { name := "revenueWhole", fn := fun _ => fun
  | [d1, d2] => { results := [.lit (.bool true)], args := [d1, d2] }
  | _ => none }
def revenueWholeRow : OpenClaim := { program := "ytbglmocgijlomaa", sum := "daadf89ec40b7ec691c625a7203898adbe05e9c8a75d53e9705e3f94e6c028ae", func := "skiarea/skiarealaw35.RevenueWhole", spec := "revenueWhole", unfollowed := true, recurses := true, named := ["math/bits.divideError", "math/bits.overflowError"], apart := false }
def RevenueWholeSaid : Prop := revenueWholeRow.holds Try.pinned (OpenSpec.ofChange revenueWholeSpec)

/-- ITS FALSE NEIGHBOUR: 'it returns false'. Refute it at one input. -/
def revenueWholeWrong : ChangeSpec := { name := "revenueWhole", fn := fun _ => fun
  | [d1, d2] => { results := [.lit (.bool false)], args := [d1, d2] }
  | _ => none }
def RevenueWholeWrongFalsely : Prop := revenueWholeRow.holds Try.pinned (OpenSpec.ofChange revenueWholeWrong)

/- THE SECOND FORM. 'bulk': how many values and letters a reading holds, each counted each time it is reached (what is shared counts as often as it is met; a slice's spare places count too). A statement '..UptoSaid' is the law's where the arguments, and the package variables that the reading takes, are together of bulk at most 1048576: NARROWER than '..Said'. Prove '..Said' where nothing that the law and all that it calls make is longer than what came in: it says more and counts as full. Else prove '..UptoSaid'. A law counts once. -/
mutual
def uptoBulk {H : Type} : DataW H → Nat
  | .lit (.string bytes) => bytes.length + 1
  | .lit _ => 1
  | .nil => 1
  | .ptr d => uptoBulk d + 1
  | .slice elems spare => uptoBulkAll elems + uptoBulkAll spare + 1
  | .agg parts => uptoBulkAll parts + 1
  | .iface _ d => uptoBulk d + 1
  | .map entries => uptoBulkEntries entries + 1
  | .held _ => 1
def uptoBulkAll {H : Type} : List (DataW H) → Nat
  | [] => 0
  | d :: r => uptoBulk d + uptoBulkAll r
def uptoBulkEntries {H : Type} : List (Lit × DataW H) → Nat
  | [] => 0
  | x :: r => uptoBulkEntry x + uptoBulkEntries r
def uptoBulkEntry {H : Type} : Lit × DataW H → Nat
  | (.string bytes, d) => bytes.length + uptoBulk d + 1
  | (_, d) => uptoBulk d + 1
 end
def uptoSmall : (H : Type) → List (DataW H) → Bool := fun _ ds => decide (uptoBulkAll ds ≤ 1048576)
def OpenSpec.upto (s : _root_.Go.ChangeSpec) : _root_.Go.OpenSpec := { _root_.Go.OpenSpec.ofChange s with cond := some uptoSmall }

/-- 'skiarealaw35.RevenueChecks', WHERE WHAT IT READS IS OF BULK AT MOST 1048576: true; the input reads as it did. -/
def revenueChecksUptoRow : OpenClaim := { program := "ytbglmocgijlomaa", sum := "daadf89ec40b7ec691c625a7203898adbe05e9c8a75d53e9705e3f94e6c028ae", func := "skiarea/skiarealaw35.RevenueChecks", spec := "revenueChecks", unfollowed := true, recurses := true, named := ["math/bits.divideError", "math/bits.overflowError"], apart := false, narrowed := true }
def RevenueChecksUptoSaid : Prop := revenueChecksUptoRow.holds Try.pinned (OpenSpec.upto revenueChecksSpec)

/-- 'skiarealaw35.RevenuePoints', WHERE WHAT IT READS IS OF BULK AT MOST 1048576: true; the input reads as it did. -/
def revenuePointsUptoRow : OpenClaim := { program := "ytbglmocgijlomaa", sum := "daadf89ec40b7ec691c625a7203898adbe05e9c8a75d53e9705e3f94e6c028ae", func := "skiarea/skiarealaw35.RevenuePoints", spec := "revenuePoints", unfollowed := true, recurses := true, named := ["math/bits.divideError", "math/bits.overflowError"], apart := false, narrowed := true }
def RevenuePointsUptoSaid : Prop := revenuePointsUptoRow.holds Try.pinned (OpenSpec.upto revenuePointsSpec)

/-- 'skiarealaw35.RevenueShares', WHERE WHAT IT READS IS OF BULK AT MOST 1048576: true; the input reads as it did. -/
def revenueSharesUptoRow : OpenClaim := { program := "ytbglmocgijlomaa", sum := "daadf89ec40b7ec691c625a7203898adbe05e9c8a75d53e9705e3f94e6c028ae", func := "skiarea/skiarealaw35.RevenueShares", spec := "revenueShares", unfollowed := true, recurses := true, named := ["math/bits.divideError", "math/bits.overflowError"], apart := false, narrowed := true }
def RevenueSharesUptoSaid : Prop := revenueSharesUptoRow.holds Try.pinned (OpenSpec.upto revenueSharesSpec)

/-- 'skiarealaw35.RevenueAll', WHERE WHAT IT READS IS OF BULK AT MOST 1048576: true; the input reads as it did. -/
def revenueAllUptoRow : OpenClaim := { program := "ytbglmocgijlomaa", sum := "daadf89ec40b7ec691c625a7203898adbe05e9c8a75d53e9705e3f94e6c028ae", func := "skiarea/skiarealaw35.RevenueAll", spec := "revenueAll", unfollowed := true, recurses := true, named := ["math/bits.divideError", "math/bits.overflowError"], apart := false, narrowed := true }
def RevenueAllUptoSaid : Prop := revenueAllUptoRow.holds Try.pinned (OpenSpec.upto revenueAllSpec)

/-- 'skiarealaw35.RevenueOthers', WHERE WHAT IT READS IS OF BULK AT MOST 1048576: true; the input reads as it did. -/
def revenueOthersUptoRow : OpenClaim := { program := "ytbglmocgijlomaa", sum := "daadf89ec40b7ec691c625a7203898adbe05e9c8a75d53e9705e3f94e6c028ae", func := "skiarea/skiarealaw35.RevenueOthers", spec := "revenueOthers", unfollowed := true, recurses := true, named := ["math/bits.divideError", "math/bits.overflowError"], apart := false, narrowed := true }
def RevenueOthersUptoSaid : Prop := revenueOthersUptoRow.holds Try.pinned (OpenSpec.upto revenueOthersSpec)

/-- 'skiarealaw35.RevenueSum', WHERE WHAT IT READS IS OF BULK AT MOST 1048576: true; the input reads as it did. -/
def revenueSumUptoRow : OpenClaim := { program := "ytbglmocgijlomaa", sum := "daadf89ec40b7ec691c625a7203898adbe05e9c8a75d53e9705e3f94e6c028ae", func := "skiarea/skiarealaw35.RevenueSum", spec := "revenueSum", unfollowed := true, recurses := true, named := ["math/bits.divideError", "math/bits.overflowError"], apart := false, narrowed := true }
def RevenueSumUptoSaid : Prop := revenueSumUptoRow.holds Try.pinned (OpenSpec.upto revenueSumSpec)

/-- 'skiarealaw35.RevenueWhole', WHERE WHAT IT READS IS OF BULK AT MOST 1048576: true; the input reads as it did. -/
def revenueWholeUptoRow : OpenClaim := { program := "ytbglmocgijlomaa", sum := "daadf89ec40b7ec691c625a7203898adbe05e9c8a75d53e9705e3f94e6c028ae", func := "skiarea/skiarealaw35.RevenueWhole", spec := "revenueWhole", unfollowed := true, recurses := true, named := ["math/bits.divideError", "math/bits.overflowError"], apart := false, narrowed := true }
def RevenueWholeUptoSaid : Prop := revenueWholeUptoRow.holds Try.pinned (OpenSpec.upto revenueWholeSpec)

end Rows
end Go.Proofs.Ytbglmocgijlomaa
