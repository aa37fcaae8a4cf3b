/- clip.open: the table of a ribbon and of kinds, or the error. -/
import Derived.Test.YtifehdoghfnhoaaGreatDoorZCNew
import Derived.Laws.EntriesVeiled
namespace Go.Proofs.YtifehdoghfnhoaaGreatDoor.C
open Go.RowKit Go.Shelf
attribute [local go_sem] Oper.semAt_some
end Go.Proofs.YtifehdoghfnhoaaGreatDoor.C
namespace Go.Proofs.YtifehdoghfnhoaaGreatDoor.C
open Go.RowKit Go.Shelf
end Go.Proofs.YtifehdoghfnhoaaGreatDoor.C
