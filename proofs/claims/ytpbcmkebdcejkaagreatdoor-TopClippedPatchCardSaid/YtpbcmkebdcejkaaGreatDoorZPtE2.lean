/- Calls on sheets of one row, reckoned by the kernel. -/
import Derived.Test.YtpbcmkebdcejkaaGreatDoorZPtD
namespace Go.Proofs.YtpbcmkebdcejkaaGreatDoor.Ev
open Go.RowKit Go.Shelf
theorem s_3_0:OkT 3 0:=⟨by kernel_rfl,by kernel_rfl,by kernel_rfl⟩
theorem s_3_1:OkT 3 1:=⟨by kernel_rfl,by kernel_rfl,by kernel_rfl⟩
theorem s_3_2:OkT 3 2:=⟨by kernel_rfl,by kernel_rfl,by kernel_rfl⟩
theorem s_3_3:OkT 3 3:=⟨by kernel_rfl,by kernel_rfl,by kernel_rfl⟩
theorem s_3_4:OkT 3 4:=⟨by kernel_rfl,by kernel_rfl,by kernel_rfl⟩
theorem s_3_5:OkT 3 5:=⟨by kernel_rfl,by kernel_rfl,by kernel_rfl⟩
theorem s_3_6:OkT 3 6:=⟨by kernel_rfl,by kernel_rfl,by kernel_rfl⟩
theorem s_3_7:OkT 3 7:=⟨by kernel_rfl,by kernel_rfl,by kernel_rfl⟩
theorem s_5_8:OkT 5 8:=⟨by kernel_rfl,by kernel_rfl,by kernel_rfl⟩
theorem s_5_9:OkT 5 9:=⟨by kernel_rfl,by kernel_rfl,by kernel_rfl⟩
theorem s_5_10:OkT 5 10:=⟨by kernel_rfl,by kernel_rfl,by kernel_rfl⟩
theorem s_5_11:OkT 5 11:=⟨by kernel_rfl,by kernel_rfl,by kernel_rfl⟩
theorem s_5_12:OkT 5 12:=⟨by kernel_rfl,by kernel_rfl,by kernel_rfl⟩
theorem s_5_13:OkT 5 13:=⟨by kernel_rfl,by kernel_rfl,by kernel_rfl⟩
theorem s_5_14:OkT 5 14:=⟨by kernel_rfl,by kernel_rfl,by kernel_rfl⟩
theorem s_5_15:OkT 5 15:=⟨by kernel_rfl,by kernel_rfl,by kernel_rfl⟩
theorem s_6_8:OkT 6 8:=⟨by kernel_rfl,by kernel_rfl,by kernel_rfl⟩
theorem s_6_9:OkT 6 9:=⟨by kernel_rfl,by kernel_rfl,by kernel_rfl⟩
theorem s_6_10:OkT 6 10:=⟨by kernel_rfl,by kernel_rfl,by kernel_rfl⟩
theorem s_6_11:OkT 6 11:=⟨by kernel_rfl,by kernel_rfl,by kernel_rfl⟩
theorem s_6_12:OkT 6 12:=⟨by kernel_rfl,by kernel_rfl,by kernel_rfl⟩
theorem s_6_13:OkT 6 13:=⟨by kernel_rfl,by kernel_rfl,by kernel_rfl⟩
theorem s_6_14:OkT 6 14:=⟨by kernel_rfl,by kernel_rfl,by kernel_rfl⟩
theorem s_6_15:OkT 6 15:=⟨by kernel_rfl,by kernel_rfl,by kernel_rfl⟩
theorem s_6_40:OkT 6 40:=⟨by kernel_rfl,by kernel_rfl,by kernel_rfl⟩
theorem s_6_41:OkT 6 41:=⟨by kernel_rfl,by kernel_rfl,by kernel_rfl⟩
theorem s_6_42:OkT 6 42:=⟨by kernel_rfl,by kernel_rfl,by kernel_rfl⟩
theorem s_6_43:OkT 6 43:=⟨by kernel_rfl,by kernel_rfl,by kernel_rfl⟩
theorem s_6_44:OkT 6 44:=⟨by kernel_rfl,by kernel_rfl,by kernel_rfl⟩
theorem s_6_45:OkT 6 45:=⟨by kernel_rfl,by kernel_rfl,by kernel_rfl⟩
theorem s_6_46:OkT 6 46:=⟨by kernel_rfl,by kernel_rfl,by kernel_rfl⟩
theorem s_6_47:OkT 6 47:=⟨by kernel_rfl,by kernel_rfl,by kernel_rfl⟩
end Go.Proofs.YtpbcmkebdcejkaaGreatDoor.Ev
