/-
  No cell of these rows narrows 'for every input' (looked for: loops, veiled, ifaces, maps, wideKeys, modest, calm, conditions, laid).
  DERIVED. THE GIVEN ROWS OF THIS SEAT. 6 by the template 'for every input the law returns true; each argument reads behind the call as it read before'; 0 by the template 'total and deterministic' (their statements: YtoeichkblclfaaaTotals.lean).
  GIVEN WITH THE SEED: the statements are not yours to turn. If you find one false, say at which input.
  Laid BY PROGRAM, IN A SANDBOX (cutbox-rows.mjs): the forced cells as the released guide's own fill.sh prints them over the translation 35916d4797b4a995… (all of the seat's roots in one cut). By AI agents, Wed Nov 11 2026. No macro, syntax, notation, axiom, sorry.
-/
import Derived.Test.YtoeichkblclfaaaChecked
import GoSem.Claim
import GoSem.ClaimJoined
import GoSem.ClaimMapViews
import Derived.JoinedTies
import Derived.KernelRfl
namespace Go.Proofs.Ytoeichkblclfaaa
/- THE CELL 'sum', in the pinned program and in every row, IS THE sha256 OF THE DUMP (.gsa) THAT YtoeichkblclfaaaProg.lean LOADS. Nothing in Lean hashes anything: it is a label: what it is worth is what the hold of that sum in a sandbox is worth. -/
noncomputable def Try.pinned : Pinned := { name := "ytoeichkblclfaaa", sum := "35916d4797b4a995839623480d9cff0ef66ee122bd9122bed82ad5a6dd3267d1", checked := Try.checked }
namespace Rows
def none {H : Type} : Left H := { results := [], args := [] }

/-- 'skiarealaw57.IncidentRights': WHATEVER THE INPUT: true; the input reads as it did. -/
def incidentRightsSpec : ChangeSpec := { name := "incidentRights", fn := fun _ => fun
  | [d] => { results := [.lit (.bool true)], args := [d] }
  | _ => none }
def incidentRightsRow : OpenClaim := { program := "ytoeichkblclfaaa", sum := "35916d4797b4a995839623480d9cff0ef66ee122bd9122bed82ad5a6dd3267d1", func := "skiarea/skiarealaw57.IncidentRights", spec := "incidentRights", unfollowed := true, recurses := true, apart := false }
def IncidentRightsSaid : Prop := incidentRightsRow.holds Try.pinned (OpenSpec.ofChange incidentRightsSpec)

/-- ITS FALSE NEIGHBOUR: 'it returns false'. Refute it at one input. -/
def incidentRightsWrong : ChangeSpec := { name := "incidentRights", fn := fun _ => fun
  | [d] => { results := [.lit (.bool false)], args := [d] }
  | _ => none }
def IncidentRightsWrongFalsely : Prop := incidentRightsRow.holds Try.pinned (OpenSpec.ofChange incidentRightsWrong)

/-- 'skiarealaw57.IncidentCalls': WHATEVER THE INPUT: true; the input reads as it did. -/
def incidentCallsSpec : ChangeSpec := { name := "incidentCalls", fn := fun _ => fun
  | [d1, d2] => { results := [.lit (.bool true)], args := [d1, d2] }
  | _ => none }
def incidentCallsRow : OpenClaim := { program := "ytoeichkblclfaaa", sum := "35916d4797b4a995839623480d9cff0ef66ee122bd9122bed82ad5a6dd3267d1", func := "skiarea/skiarealaw57.IncidentCalls", spec := "incidentCalls", unfollowed := true, recurses := true, apart := false }
def IncidentCallsSaid : Prop := incidentCallsRow.holds Try.pinned (OpenSpec.ofChange incidentCallsSpec)

/-- ITS FALSE NEIGHBOUR: 'it returns false'. Refute it at one input. -/
def incidentCallsWrong : ChangeSpec := { name := "incidentCalls", fn := fun _ => fun
  | [d1, d2] => { results := [.lit (.bool false)], args := [d1, d2] }
  | _ => none }
def IncidentCallsWrongFalsely : Prop := incidentCallsRow.holds Try.pinned (OpenSpec.ofChange incidentCallsWrong)

/-- 'skiarealaw57.IncidentUrgent': WHATEVER THE INPUT: true; the input reads as it did. -/
def incidentUrgentSpec : ChangeSpec := { name := "incidentUrgent", fn := fun _ => fun
  | [d] => { results := [.lit (.bool true)], args := [d] }
  | _ => none }
def incidentUrgentRow : OpenClaim := { program := "ytoeichkblclfaaa", sum := "35916d4797b4a995839623480d9cff0ef66ee122bd9122bed82ad5a6dd3267d1", func := "skiarea/skiarealaw57.IncidentUrgent", spec := "incidentUrgent", unfollowed := true, recurses := true, apart := false }
def IncidentUrgentSaid : Prop := incidentUrgentRow.holds Try.pinned (OpenSpec.ofChange incidentUrgentSpec)

/-- ITS FALSE NEIGHBOUR: 'it returns false'. Refute it at one input. -/
def incidentUrgentWrong : ChangeSpec := { name := "incidentUrgent", fn := fun _ => fun
  | [d] => { results := [.lit (.bool false)], args := [d] }
  | _ => none }
def IncidentUrgentWrongFalsely : Prop := incidentUrgentRow.holds Try.pinned (OpenSpec.ofChange incidentUrgentWrong)

/-- 'skiarealaw57.IncidentPlans': WHATEVER THE INPUT: true; the input reads as it did. -/
def incidentPlansSpec : ChangeSpec := { name := "incidentPlans", fn := fun _ => fun
  | [d1, d2, d3] => { results := [.lit (.bool true)], args := [d1, d2, d3] }
  | _ => none }
def incidentPlansRow : OpenClaim := { program := "ytoeichkblclfaaa", sum := "35916d4797b4a995839623480d9cff0ef66ee122bd9122bed82ad5a6dd3267d1", func := "skiarea/skiarealaw57.IncidentPlans", spec := "incidentPlans", unfollowed := true, recurses := true, apart := false }
def IncidentPlansSaid : Prop := incidentPlansRow.holds Try.pinned (OpenSpec.ofChange incidentPlansSpec)

/-- ITS FALSE NEIGHBOUR: 'it returns false'. Refute it at one input. -/
def incidentPlansWrong : ChangeSpec := { name := "incidentPlans", fn := fun _ => fun
  | [d1, d2, d3] => { results := [.lit (.bool false)], args := [d1, d2, d3] }
  | _ => none }
def IncidentPlansWrongFalsely : Prop := incidentPlansRow.holds Try.pinned (OpenSpec.ofChange incidentPlansWrong)

/-- 'skiarealaw57.IncidentTeams': WHATEVER THE INPUT: true; the input reads as it did. -/
def incidentTeamsSpec : ChangeSpec := { name := "incidentTeams", fn := fun _ => fun
  | [d1, d2, d3] => { results := [.lit (.bool true)], args := [d1, d2, d3] }
  | _ => none }
def incidentTeamsRow : OpenClaim := { program := "ytoeichkblclfaaa", sum := "35916d4797b4a995839623480d9cff0ef66ee122bd9122bed82ad5a6dd3267d1", func := "skiarea/skiarealaw57.IncidentTeams", spec := "incidentTeams", unfollowed := true, recurses := true, apart := false }
def IncidentTeamsSaid : Prop := incidentTeamsRow.holds Try.pinned (OpenSpec.ofChange incidentTeamsSpec)

/-- ITS FALSE NEIGHBOUR: 'it returns false'. Refute it at one input. -/
def incidentTeamsWrong : ChangeSpec := { name := "incidentTeams", fn := fun _ => fun
  | [d1, d2, d3] => { results := [.lit (.bool false)], args := [d1, d2, d3] }
  | _ => none }
def IncidentTeamsWrongFalsely : Prop := incidentTeamsRow.holds Try.pinned (OpenSpec.ofChange incidentTeamsWrong)

/-- 'skiarealaw57.IncidentLife': WHATEVER THE INPUT: true; the input reads as it did. -/
def incidentLifeSpec : ChangeSpec := { name := "incidentLife", fn := fun _ => fun
  | [d1, d2] => { results := [.lit (.bool true)], args := [d1, d2] }
  | _ => none }
def incidentLifeRow : OpenClaim := { program := "ytoeichkblclfaaa", sum := "35916d4797b4a995839623480d9cff0ef66ee122bd9122bed82ad5a6dd3267d1", func := "skiarea/skiarealaw57.IncidentLife", spec := "incidentLife", unfollowed := true, recurses := true, apart := false }
def IncidentLifeSaid : Prop := incidentLifeRow.holds Try.pinned (OpenSpec.ofChange incidentLifeSpec)

/-- ITS FALSE NEIGHBOUR: 'it returns false'. Refute it at one input. -/
def incidentLifeWrong : ChangeSpec := { name := "incidentLife", fn := fun _ => fun
  | [d1, d2] => { results := [.lit (.bool false)], args := [d1, d2] }
  | _ => none }
def IncidentLifeWrongFalsely : Prop := incidentLifeRow.holds Try.pinned (OpenSpec.ofChange incidentLifeWrong)

/- THE SECOND FORM. 'bulk': how many values and letters a reading holds, each counted each time it is reached (what is shared counts as often as it is met; a slice's spare places count too). A statement '..UptoSaid' is the law's where the arguments, and the package variables that the reading takes, are together of bulk at most 1048576: NARROWER than '..Said'. Prove '..Said' where nothing that the law and all that it calls make is longer than what came in: it says more and counts as full. Else prove '..UptoSaid'. A law counts once. -/
mutual
def uptoBulk {H : Type} : DataW H → Nat
  | .lit (.string bytes) => bytes.length + 1
  | .lit _ => 1
  | .nil => 1
  | .ptr d => uptoBulk d + 1
  | .slice elems spare => uptoBulkAll elems + uptoBulkAll spare + 1
  | .agg parts => uptoBulkAll parts + 1
  | .iface _ d => uptoBulk d + 1
  | .map entries => uptoBulkEntries entries + 1
  | .held _ => 1
def uptoBulkAll {H : Type} : List (DataW H) → Nat
  | [] => 0
  | d :: r => uptoBulk d + uptoBulkAll r
def uptoBulkEntries {H : Type} : List (Lit × DataW H) → Nat
  | [] => 0
  | x :: r => uptoBulkEntry x + uptoBulkEntries r
def uptoBulkEntry {H : Type} : Lit × DataW H → Nat
  | (.string bytes, d) => bytes.length + uptoBulk d + 1
  | (_, d) => uptoBulk d + 1
 end
def uptoSmall : (H : Type) → List (DataW H) → Bool := fun _ ds => decide (uptoBulkAll ds ≤ 1048576)
def OpenSpec.upto (s : _root_.Go.ChangeSpec) : _root_.Go.OpenSpec := { _root_.Go.OpenSpec.ofChange s with cond := some uptoSmall }

/-- 'skiarealaw57.IncidentRights', WHERE WHAT IT READS IS OF BULK AT MOST 1048576: true; the input reads as it did. -/
def incidentRightsUptoRow : OpenClaim := { program := "ytoeichkblclfaaa", sum := "35916d4797b4a995839623480d9cff0ef66ee122bd9122bed82ad5a6dd3267d1", func := "skiarea/skiarealaw57.IncidentRights", spec := "incidentRights", unfollowed := true, recurses := true, apart := false, narrowed := true }
def IncidentRightsUptoSaid : Prop := incidentRightsUptoRow.holds Try.pinned (OpenSpec.upto incidentRightsSpec)

/-- 'skiarealaw57.IncidentCalls', WHERE WHAT IT READS IS OF BULK AT MOST 1048576: true; the input reads as it did. -/
def incidentCallsUptoRow : OpenClaim := { program := "ytoeichkblclfaaa", sum := "35916d4797b4a995839623480d9cff0ef66ee122bd9122bed82ad5a6dd3267d1", func := "skiarea/skiarealaw57.IncidentCalls", spec := "incidentCalls", unfollowed := true, recurses := true, apart := false, narrowed := true }
def IncidentCallsUptoSaid : Prop := incidentCallsUptoRow.holds Try.pinned (OpenSpec.upto incidentCallsSpec)

/-- 'skiarealaw57.IncidentUrgent', WHERE WHAT IT READS IS OF BULK AT MOST 1048576: true; the input reads as it did. -/
def incidentUrgentUptoRow : OpenClaim := { program := "ytoeichkblclfaaa", sum := "35916d4797b4a995839623480d9cff0ef66ee122bd9122bed82ad5a6dd3267d1", func := "skiarea/skiarealaw57.IncidentUrgent", spec := "incidentUrgent", unfollowed := true, recurses := true, apart := false, narrowed := true }
def IncidentUrgentUptoSaid : Prop := incidentUrgentUptoRow.holds Try.pinned (OpenSpec.upto incidentUrgentSpec)

/-- 'skiarealaw57.IncidentPlans', WHERE WHAT IT READS IS OF BULK AT MOST 1048576: true; the input reads as it did. -/
def incidentPlansUptoRow : OpenClaim := { program := "ytoeichkblclfaaa", sum := "35916d4797b4a995839623480d9cff0ef66ee122bd9122bed82ad5a6dd3267d1", func := "skiarea/skiarealaw57.IncidentPlans", spec := "incidentPlans", unfollowed := true, recurses := true, apart := false, narrowed := true }
def IncidentPlansUptoSaid : Prop := incidentPlansUptoRow.holds Try.pinned (OpenSpec.upto incidentPlansSpec)

/-- 'skiarealaw57.IncidentTeams', WHERE WHAT IT READS IS OF BULK AT MOST 1048576: true; the input reads as it did. -/
def incidentTeamsUptoRow : OpenClaim := { program := "ytoeichkblclfaaa", sum := "35916d4797b4a995839623480d9cff0ef66ee122bd9122bed82ad5a6dd3267d1", func := "skiarea/skiarealaw57.IncidentTeams", spec := "incidentTeams", unfollowed := true, recurses := true, apart := false, narrowed := true }
def IncidentTeamsUptoSaid : Prop := incidentTeamsUptoRow.holds Try.pinned (OpenSpec.upto incidentTeamsSpec)

/-- 'skiarealaw57.IncidentLife', WHERE WHAT IT READS IS OF BULK AT MOST 1048576: true; the input reads as it did. -/
def incidentLifeUptoRow : OpenClaim := { program := "ytoeichkblclfaaa", sum := "35916d4797b4a995839623480d9cff0ef66ee122bd9122bed82ad5a6dd3267d1", func := "skiarea/skiarealaw57.IncidentLife", spec := "incidentLife", unfollowed := true, recurses := true, apart := false, narrowed := true }
def IncidentLifeUptoSaid : Prop := incidentLifeUptoRow.holds Try.pinned (OpenSpec.upto incidentLifeSpec)

end Rows
end Go.Proofs.Ytoeichkblclfaaa
