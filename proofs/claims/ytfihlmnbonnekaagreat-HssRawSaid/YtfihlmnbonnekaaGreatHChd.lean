/- hss.Child and the document's, of any number; and what they stand on. -/
import Derived.Test.YtfihlmnbonnekaaGreatLBuf
import Derived.Test.YtfihlmnbonnekaaGreatLTold
namespace Go.Proofs.YtfihlmnbonnekaaGreat
open Go.RowKit

end Go.Proofs.YtfihlmnbonnekaaGreat
