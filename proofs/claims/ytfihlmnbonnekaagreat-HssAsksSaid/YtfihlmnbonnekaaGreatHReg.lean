/- A region that draws its order and lays two new variables: they are two. No dump, no condition. -/
import Derived.Test.YtfihlmnbonnekaaGreatEffA
namespace Go.Proofs.YtfihlmnbonnekaaGreat
open Go.RowKit
set_option maxHeartbeats 32000000
end Go.Proofs.YtfihlmnbonnekaaGreat
