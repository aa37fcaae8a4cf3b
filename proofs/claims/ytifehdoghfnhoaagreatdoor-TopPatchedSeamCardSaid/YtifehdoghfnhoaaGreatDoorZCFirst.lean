/- clip.table.first: the first best cuts. -/
import Derived.Test.YtifehdoghfnhoaaGreatDoorZCCount
import Derived.OwnWalkIn
import Derived.Scope
namespace Go.Proofs.YtifehdoghfnhoaaGreatDoor.C
open Go.RowKit Go.Shelf
attribute [local go_sem] Oper.semAt_some
end Go.Proofs.YtifehdoghfnhoaaGreatDoor.C
