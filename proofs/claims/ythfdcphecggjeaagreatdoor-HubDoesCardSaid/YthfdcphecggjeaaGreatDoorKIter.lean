/- The layings of the iterators and sorts: see HIter. -/
import Derived.Test.YthfdcphecggjeaaGreatDoorHIter
namespace Go.Proofs.YthfdcphecggjeaaGreatDoor
end Go.Proofs.YthfdcphecggjeaaGreatDoor
