/- clip.table.count: how many best cuts there are, from each place on. -/
import Derived.Test.YtpbcmkebdcejkaaGreatDoorZCNew
import Derived.Test.YtpbcmkebdcejkaaGreatDoorZCOpen
import Derived.Deep.OwnRows
namespace Go.Proofs.YtpbcmkebdcejkaaGreatDoor.C
open Go.RowKit
end Go.Proofs.YtpbcmkebdcejkaaGreatDoor.C
namespace Go.Proofs.YtpbcmkebdcejkaaGreatDoor.C
open Go.RowKit Go.Shelf
attribute [local go_sem] Oper.semAt_some
end Go.Proofs.YtpbcmkebdcejkaaGreatDoor.C
