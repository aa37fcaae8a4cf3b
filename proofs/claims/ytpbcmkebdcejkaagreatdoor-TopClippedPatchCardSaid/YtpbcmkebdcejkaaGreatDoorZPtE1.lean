/- Calls on sheets of one row, reckoned by the kernel. -/
import Derived.Test.YtpbcmkebdcejkaaGreatDoorZPtD
namespace Go.Proofs.YtpbcmkebdcejkaaGreatDoor.Ev
open Go.RowKit Go.Shelf
theorem s_2_0:OkT 2 0:=⟨by kernel_rfl,by kernel_rfl,by kernel_rfl⟩
theorem s_2_1:OkT 2 1:=⟨by kernel_rfl,by kernel_rfl,by kernel_rfl⟩
theorem s_2_2:OkT 2 2:=⟨by kernel_rfl,by kernel_rfl,by kernel_rfl⟩
theorem s_2_3:OkT 2 3:=⟨by kernel_rfl,by kernel_rfl,by kernel_rfl⟩
theorem s_5_0:OkT 5 0:=⟨by kernel_rfl,by kernel_rfl,by kernel_rfl⟩
theorem s_5_1:OkT 5 1:=⟨by kernel_rfl,by kernel_rfl,by kernel_rfl⟩
theorem s_5_2:OkT 5 2:=⟨by kernel_rfl,by kernel_rfl,by kernel_rfl⟩
theorem s_5_3:OkT 5 3:=⟨by kernel_rfl,by kernel_rfl,by kernel_rfl⟩
theorem s_5_4:OkT 5 4:=⟨by kernel_rfl,by kernel_rfl,by kernel_rfl⟩
theorem s_5_5:OkT 5 5:=⟨by kernel_rfl,by kernel_rfl,by kernel_rfl⟩
theorem s_5_6:OkT 5 6:=⟨by kernel_rfl,by kernel_rfl,by kernel_rfl⟩
theorem s_5_7:OkT 5 7:=⟨by kernel_rfl,by kernel_rfl,by kernel_rfl⟩
theorem s_6_0:OkT 6 0:=⟨by kernel_rfl,by kernel_rfl,by kernel_rfl⟩
theorem s_6_1:OkT 6 1:=⟨by kernel_rfl,by kernel_rfl,by kernel_rfl⟩
theorem s_6_2:OkT 6 2:=⟨by kernel_rfl,by kernel_rfl,by kernel_rfl⟩
theorem s_6_3:OkT 6 3:=⟨by kernel_rfl,by kernel_rfl,by kernel_rfl⟩
theorem s_6_4:OkT 6 4:=⟨by kernel_rfl,by kernel_rfl,by kernel_rfl⟩
theorem s_6_5:OkT 6 5:=⟨by kernel_rfl,by kernel_rfl,by kernel_rfl⟩
theorem s_6_6:OkT 6 6:=⟨by kernel_rfl,by kernel_rfl,by kernel_rfl⟩
theorem s_6_7:OkT 6 7:=⟨by kernel_rfl,by kernel_rfl,by kernel_rfl⟩
theorem s_6_32:OkT 6 32:=⟨by kernel_rfl,by kernel_rfl,by kernel_rfl⟩
theorem s_6_33:OkT 6 33:=⟨by kernel_rfl,by kernel_rfl,by kernel_rfl⟩
theorem s_6_34:OkT 6 34:=⟨by kernel_rfl,by kernel_rfl,by kernel_rfl⟩
theorem s_6_35:OkT 6 35:=⟨by kernel_rfl,by kernel_rfl,by kernel_rfl⟩
theorem s_6_36:OkT 6 36:=⟨by kernel_rfl,by kernel_rfl,by kernel_rfl⟩
theorem s_6_37:OkT 6 37:=⟨by kernel_rfl,by kernel_rfl,by kernel_rfl⟩
theorem s_6_38:OkT 6 38:=⟨by kernel_rfl,by kernel_rfl,by kernel_rfl⟩
theorem s_6_39:OkT 6 39:=⟨by kernel_rfl,by kernel_rfl,by kernel_rfl⟩
end Go.Proofs.YtpbcmkebdcejkaaGreatDoor.Ev
