/- Netting: the reference's Valid. -/
import Derived.Test.YtpkhannkbafimaaGreatF3
namespace Go.Proofs.YtpkhannkbafimaaGreat
open Go.RowKit

end Go.Proofs.YtpkhannkbafimaaGreat
