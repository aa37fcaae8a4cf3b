/- clip.CheckCuts, where the ribbon and the kinds are valid: what cuts are worth, or the error. -/
import Derived.Test.YtpbcmkebdcejkaaGreatDoorZCCount
import Derived.OwnWalkIn
import Derived.Scope
namespace Go.Proofs.YtpbcmkebdcejkaaGreatDoor.C
open Go.RowKit Go.Shelf
attribute [local go_sem] Oper.semAt_some
end Go.Proofs.YtpbcmkebdcejkaaGreatDoor.C
namespace Go.Proofs.YtpbcmkebdcejkaaGreatDoor.C
open Go.RowKit Go.Shelf
end Go.Proofs.YtpbcmkebdcejkaaGreatDoor.C
namespace Go.Proofs.YtpbcmkebdcejkaaGreatDoor.C
open Go.RowKit Go.Shelf
end Go.Proofs.YtpbcmkebdcejkaaGreatDoor.C
