/- Walks: where a place is on the ball that lies along the meridian: the reference's TurnednessOf. -/
import Derived.Test.YtmmifmlkhmdgaaaDoorU3
import Derived.Test.YtmmifmlkhmdgaaaDoorY1
namespace Go.Proofs.YtmmifmlkhmdgaaaDoor
open Go.RowKit Go.Fp Go.Rel
set_option maxRecDepth 20000

end Go.Proofs.YtmmifmlkhmdgaaaDoor
