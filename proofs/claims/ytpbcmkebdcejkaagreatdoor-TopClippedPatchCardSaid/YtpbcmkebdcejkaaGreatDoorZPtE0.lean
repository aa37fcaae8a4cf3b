/- Calls on sheets of one row, reckoned by the kernel. -/
import Derived.Test.YtpbcmkebdcejkaaGreatDoorZPtD
namespace Go.Proofs.YtpbcmkebdcejkaaGreatDoor.Ev
open Go.RowKit Go.Shelf
theorem s_1_0:OkT 1 0:=⟨by kernel_rfl,by kernel_rfl,by kernel_rfl⟩
theorem s_1_1:OkT 1 1:=⟨by kernel_rfl,by kernel_rfl,by kernel_rfl⟩
theorem s_4_8:OkT 4 8:=⟨by kernel_rfl,by kernel_rfl,by kernel_rfl⟩
theorem s_4_9:OkT 4 9:=⟨by kernel_rfl,by kernel_rfl,by kernel_rfl⟩
theorem s_4_10:OkT 4 10:=⟨by kernel_rfl,by kernel_rfl,by kernel_rfl⟩
theorem s_4_11:OkT 4 11:=⟨by kernel_rfl,by kernel_rfl,by kernel_rfl⟩
theorem s_4_12:OkT 4 12:=⟨by kernel_rfl,by kernel_rfl,by kernel_rfl⟩
theorem s_4_13:OkT 4 13:=⟨by kernel_rfl,by kernel_rfl,by kernel_rfl⟩
theorem s_4_14:OkT 4 14:=⟨by kernel_rfl,by kernel_rfl,by kernel_rfl⟩
theorem s_4_15:OkT 4 15:=⟨by kernel_rfl,by kernel_rfl,by kernel_rfl⟩
theorem s_5_24:OkT 5 24:=⟨by kernel_rfl,by kernel_rfl,by kernel_rfl⟩
theorem s_5_25:OkT 5 25:=⟨by kernel_rfl,by kernel_rfl,by kernel_rfl⟩
theorem s_5_26:OkT 5 26:=⟨by kernel_rfl,by kernel_rfl,by kernel_rfl⟩
theorem s_5_27:OkT 5 27:=⟨by kernel_rfl,by kernel_rfl,by kernel_rfl⟩
theorem s_5_28:OkT 5 28:=⟨by kernel_rfl,by kernel_rfl,by kernel_rfl⟩
theorem s_5_29:OkT 5 29:=⟨by kernel_rfl,by kernel_rfl,by kernel_rfl⟩
theorem s_5_30:OkT 5 30:=⟨by kernel_rfl,by kernel_rfl,by kernel_rfl⟩
theorem s_5_31:OkT 5 31:=⟨by kernel_rfl,by kernel_rfl,by kernel_rfl⟩
theorem s_6_24:OkT 6 24:=⟨by kernel_rfl,by kernel_rfl,by kernel_rfl⟩
theorem s_6_25:OkT 6 25:=⟨by kernel_rfl,by kernel_rfl,by kernel_rfl⟩
theorem s_6_26:OkT 6 26:=⟨by kernel_rfl,by kernel_rfl,by kernel_rfl⟩
theorem s_6_27:OkT 6 27:=⟨by kernel_rfl,by kernel_rfl,by kernel_rfl⟩
theorem s_6_28:OkT 6 28:=⟨by kernel_rfl,by kernel_rfl,by kernel_rfl⟩
theorem s_6_29:OkT 6 29:=⟨by kernel_rfl,by kernel_rfl,by kernel_rfl⟩
theorem s_6_30:OkT 6 30:=⟨by kernel_rfl,by kernel_rfl,by kernel_rfl⟩
theorem s_6_31:OkT 6 31:=⟨by kernel_rfl,by kernel_rfl,by kernel_rfl⟩
theorem s_6_56:OkT 6 56:=⟨by kernel_rfl,by kernel_rfl,by kernel_rfl⟩
theorem s_6_57:OkT 6 57:=⟨by kernel_rfl,by kernel_rfl,by kernel_rfl⟩
theorem s_6_58:OkT 6 58:=⟨by kernel_rfl,by kernel_rfl,by kernel_rfl⟩
theorem s_6_59:OkT 6 59:=⟨by kernel_rfl,by kernel_rfl,by kernel_rfl⟩
theorem s_6_60:OkT 6 60:=⟨by kernel_rfl,by kernel_rfl,by kernel_rfl⟩
theorem s_6_61:OkT 6 61:=⟨by kernel_rfl,by kernel_rfl,by kernel_rfl⟩
theorem s_6_62:OkT 6 62:=⟨by kernel_rfl,by kernel_rfl,by kernel_rfl⟩
theorem s_6_63:OkT 6 63:=⟨by kernel_rfl,by kernel_rfl,by kernel_rfl⟩
end Go.Proofs.YtpbcmkebdcejkaaGreatDoor.Ev
