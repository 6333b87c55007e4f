/- Walks: where a place is on paper: the reference's. -/
import Derived.Test.YtopedblojfnlnaaGreatDoorY4
namespace Go.Proofs.YtopedblojfnlnaaGreatDoor
open Go.RowKit Go.Fp Go.Rel
set_option maxRecDepth 20000

end Go.Proofs.YtopedblojfnlnaaGreatDoor
