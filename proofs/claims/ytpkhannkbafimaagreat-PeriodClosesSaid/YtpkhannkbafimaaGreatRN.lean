/- Periods: each ride is counted once, closed periods are kept. -/
import Derived.Test.YtpkhannkbafimaaGreatRM
namespace Go.Proofs.YtpkhannkbafimaaGreat
open Go.RowKit
/-- Closed periods have the same shares and rides later, and all rides are there. -/
structure KeptP (b c : Bk) : Prop where
  len : b.ps.length ≤ c.ps.length
  per : ∀ (k : Nat) (x : Per), b.ps[k]? = some x → x.cl = true → c.ps[k]? = some x
  rid : ∀ (k : Nat) (x : Per), b.ps[k]? = some x → x.cl = true → ridesOf b ((k : Int) + 1) = ridesOf c ((k : Int) + 1)
  sub : ∀ x ∈ b.rs, x ∈ c.rs
/-! skiarea/skiarealaw38.times -/
/-! skiarea/skiarealaw38.kept -/
end Go.Proofs.YtpkhannkbafimaaGreat
