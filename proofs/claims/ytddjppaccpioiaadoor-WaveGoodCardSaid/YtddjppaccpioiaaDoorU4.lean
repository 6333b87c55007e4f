/- Walks: where a place is on the ball that lies along the meridian: the reference's TurnednessOf. -/
import Derived.Test.YtddjppaccpioiaaDoorU3
import Derived.Test.YtddjppaccpioiaaDoorZM
namespace Go.Proofs.YtddjppaccpioiaaDoor
open Go.RowKit Go.Fp Go.Rel
set_option maxRecDepth 20000

end Go.Proofs.YtddjppaccpioiaaDoor
