/- Contracts of l02Mod, remainder. -/
import Derived.Test.YtedfmjijemcpaaaInts
namespace Go.Proofs.Ytedfmjijemcpaaa
open Go.RowKit

end Go.Proofs.Ytedfmjijemcpaaa
