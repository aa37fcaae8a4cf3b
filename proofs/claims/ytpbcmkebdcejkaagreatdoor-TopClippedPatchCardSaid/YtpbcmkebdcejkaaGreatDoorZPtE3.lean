/- Calls on sheets of one row, reckoned by the kernel. -/
import Derived.Test.YtpbcmkebdcejkaaGreatDoorZPtD
namespace Go.Proofs.YtpbcmkebdcejkaaGreatDoor.Ev
open Go.RowKit Go.Shelf
theorem s_4_0:OkT 4 0:=⟨by kernel_rfl,by kernel_rfl,by kernel_rfl⟩
theorem s_4_1:OkT 4 1:=⟨by kernel_rfl,by kernel_rfl,by kernel_rfl⟩
theorem s_4_2:OkT 4 2:=⟨by kernel_rfl,by kernel_rfl,by kernel_rfl⟩
theorem s_4_3:OkT 4 3:=⟨by kernel_rfl,by kernel_rfl,by kernel_rfl⟩
theorem s_4_4:OkT 4 4:=⟨by kernel_rfl,by kernel_rfl,by kernel_rfl⟩
theorem s_4_5:OkT 4 5:=⟨by kernel_rfl,by kernel_rfl,by kernel_rfl⟩
theorem s_4_6:OkT 4 6:=⟨by kernel_rfl,by kernel_rfl,by kernel_rfl⟩
theorem s_4_7:OkT 4 7:=⟨by kernel_rfl,by kernel_rfl,by kernel_rfl⟩
theorem s_5_16:OkT 5 16:=⟨by kernel_rfl,by kernel_rfl,by kernel_rfl⟩
theorem s_5_17:OkT 5 17:=⟨by kernel_rfl,by kernel_rfl,by kernel_rfl⟩
theorem s_5_18:OkT 5 18:=⟨by kernel_rfl,by kernel_rfl,by kernel_rfl⟩
theorem s_5_19:OkT 5 19:=⟨by kernel_rfl,by kernel_rfl,by kernel_rfl⟩
theorem s_5_20:OkT 5 20:=⟨by kernel_rfl,by kernel_rfl,by kernel_rfl⟩
theorem s_5_21:OkT 5 21:=⟨by kernel_rfl,by kernel_rfl,by kernel_rfl⟩
theorem s_5_22:OkT 5 22:=⟨by kernel_rfl,by kernel_rfl,by kernel_rfl⟩
theorem s_5_23:OkT 5 23:=⟨by kernel_rfl,by kernel_rfl,by kernel_rfl⟩
theorem s_6_16:OkT 6 16:=⟨by kernel_rfl,by kernel_rfl,by kernel_rfl⟩
theorem s_6_17:OkT 6 17:=⟨by kernel_rfl,by kernel_rfl,by kernel_rfl⟩
theorem s_6_18:OkT 6 18:=⟨by kernel_rfl,by kernel_rfl,by kernel_rfl⟩
theorem s_6_19:OkT 6 19:=⟨by kernel_rfl,by kernel_rfl,by kernel_rfl⟩
theorem s_6_20:OkT 6 20:=⟨by kernel_rfl,by kernel_rfl,by kernel_rfl⟩
theorem s_6_21:OkT 6 21:=⟨by kernel_rfl,by kernel_rfl,by kernel_rfl⟩
theorem s_6_22:OkT 6 22:=⟨by kernel_rfl,by kernel_rfl,by kernel_rfl⟩
theorem s_6_23:OkT 6 23:=⟨by kernel_rfl,by kernel_rfl,by kernel_rfl⟩
theorem s_6_48:OkT 6 48:=⟨by kernel_rfl,by kernel_rfl,by kernel_rfl⟩
theorem s_6_49:OkT 6 49:=⟨by kernel_rfl,by kernel_rfl,by kernel_rfl⟩
theorem s_6_50:OkT 6 50:=⟨by kernel_rfl,by kernel_rfl,by kernel_rfl⟩
theorem s_6_51:OkT 6 51:=⟨by kernel_rfl,by kernel_rfl,by kernel_rfl⟩
theorem s_6_52:OkT 6 52:=⟨by kernel_rfl,by kernel_rfl,by kernel_rfl⟩
theorem s_6_53:OkT 6 53:=⟨by kernel_rfl,by kernel_rfl,by kernel_rfl⟩
theorem s_6_54:OkT 6 54:=⟨by kernel_rfl,by kernel_rfl,by kernel_rfl⟩
theorem s_6_55:OkT 6 55:=⟨by kernel_rfl,by kernel_rfl,by kernel_rfl⟩
end Go.Proofs.YtpbcmkebdcejkaaGreatDoor.Ev
