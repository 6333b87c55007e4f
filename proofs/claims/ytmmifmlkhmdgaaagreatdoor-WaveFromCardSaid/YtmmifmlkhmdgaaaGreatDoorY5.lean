/- Walks: where a place is on paper: the reference's. -/
import Derived.Test.YtmmifmlkhmdgaaaGreatDoorY4
namespace Go.Proofs.YtmmifmlkhmdgaaaGreatDoor
open Go.RowKit Go.Fp Go.Rel
set_option maxRecDepth 20000

end Go.Proofs.YtmmifmlkhmdgaaaGreatDoor
