/- Contracts: the reference's ChangeOf. -/
import Derived.Test.YtekgnpdchpdfiaaC17
namespace Go.Proofs.Ytekgnpdchpdfiaa
open Go.RowKit

end Go.Proofs.Ytekgnpdchpdfiaa
