/- A map from sheets to numbers, as a plain set with worths: what a store and a delete make of it. -/
import Derived.Test.YtifehdoghfnhoaaGreatDoorZCNew
import Derived.Maps.OwnIn
import Derived.DeepKeys3
import Derived.KernelRfl
namespace Go.Proofs.YtifehdoghfnhoaaGreatDoor.C
open Go.RowKit Go.Shelf Go.Maps
end Go.Proofs.YtifehdoghfnhoaaGreatDoor.C
