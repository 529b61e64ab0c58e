/- Periods: operations. -/
import Derived.Test.YtpkhannkbafimaaGreatRL
import Derived.Test.YtpkhannkbafimaaGreatArg
namespace Go.Proofs.YtpkhannkbafimaaGreat
open Go.RowKit
/-! skiarea/skiarealaw38.do -/
end Go.Proofs.YtpkhannkbafimaaGreat
