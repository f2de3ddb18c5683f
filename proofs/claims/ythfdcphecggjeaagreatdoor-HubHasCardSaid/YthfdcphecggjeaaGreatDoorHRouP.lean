/- The hub's laws: who is told by a Route. No program in sight. -/
import Derived.Test.YthfdcphecggjeaaGreatDoorQX
namespace Go.Proofs.YthfdcphecggjeaaGreatDoor
open Go

end Go.Proofs.YthfdcphecggjeaaGreatDoor
