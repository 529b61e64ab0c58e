/- How a surface lies in memory. -/
import Derived.Test.YtgjcoebfiangcaaRows
import Derived.Test.YtgjcoebfiangcaaZPlain
import Derived.Test.YtgjcoebfiangcaaZMem
namespace Go.Proofs.Ytgjcoebfiangcaa.Old
open Go.RowKit
def encS (x : Surf) : List Value := [.int .i64 x.run, .int .i64 x.groomed, .int .i64 x.traffic]
theorem encS_len (x : Surf) : (encS x).length = 3 := rfl
end Go.Proofs.Ytgjcoebfiangcaa.Old
