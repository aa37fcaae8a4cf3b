/- Closed calls are reckoned by the kernel: calls of crossband/crossbandlaw04.Works, reckoned ahead. -/
import Derived.Test.YtifehdoghfnhoaaGreatDoorZEvLg
namespace Go.Proofs.YtifehdoghfnhoaaGreatDoor.Ev
open Go.RowKit Go.Shelf
noncomputable def w4_0:PC:=⟨[.agg [.sl 1 0 3 3 1 true,.lit (.int .i64 (.ofNat 4))],.lit (.agg #[.int .i64 (.ofNat 0),.int .i64 (.ofNat 0),.int .i64 (.ofNat 1),.int .i64 (.ofNat 4)])],[(1,.cells [.lit (.string ⟨#[111,46,46,111]⟩),.lit (.string ⟨#[46,35,46,46]⟩),.lit (.string ⟨#[111,46,46,111]⟩)] 9)],100000,⟨.lit (.int .i64 (.ofNat 0)),[],100035⟩⟩
theorem w4_0_ok:PcOk Tryz.prog 65 w4_0:=pc_of evL_ok (by kernel_rfl)
noncomputable def w4_3:PC:=⟨[.agg [.sl 1 0 3 3 1 true,.lit (.int .i64 (.ofNat 4))],.lit (.agg #[.int .i64 (.ofNat 0),.int .i64 (.ofNat 2),.int .i64 (.ofNat 3),.int .i64 (.ofNat 2)])],[(1,.cells [.lit (.string ⟨#[111,46,46,111]⟩),.lit (.string ⟨#[46,35,46,46]⟩),.lit (.string ⟨#[111,46,46,111]⟩)] 9)],400000,⟨.lit (.int .i64 (.ofNat 4)),[],400035⟩⟩
theorem w4_3_ok:PcOk Tryz.prog 65 w4_3:=pc_of evL_ok (by kernel_rfl)
noncomputable def w4_6:PC:=⟨[.agg [.sl 1 0 3 3 1 true,.lit (.int .i64 (.ofNat 4))]],[(1,.cells [.lit (.string ⟨#[111,46,46,111]⟩),.lit (.string ⟨#[46,35,46,46]⟩),.lit (.string ⟨#[111,46,46,111]⟩)] 9)],700000,⟨.lit (.tuple #[.int .i64 (.ofNat 2),.int .i64 (.ofNat 0)]),[],700509⟩⟩
theorem w4_6_ok:PcOk Tryz.prog 7 w4_6:=pc_of evL_ok (by kernel_rfl)
noncomputable def w4_9:PC:=⟨[.agg [.sl 1 0 3 3 1 true,.lit (.int .i64 (.ofNat 4))]],[(1,.cells [.lit (.string ⟨#[111,46,46,111]⟩),.lit (.string ⟨#[46,35,46,46]⟩),.lit (.string ⟨#[111,46,46,111]⟩)] 9)],1000000,⟨.tup [.sl 1000111 0 2 2 1 false,.lit (.int .i64 (.ofNat 0))],[(1000111,some (.cells [.lit (.int .i64 (.ofNat 0)),.lit (.int .i64 (.ofNat 3))] 3))],1000247⟩⟩
theorem w4_9_ok:PcOk Tryz.prog 10 w4_9:=pc_of evL_ok (by kernel_rfl)
noncomputable def w4_12:PC:=⟨[.agg [.sl 1 0 3 3 1 true,.lit (.int .i64 (.ofNat 4))],.sl 1200057 0 2 2 1 true],[(1,.cells [.lit (.string ⟨#[111,46,46,111]⟩),.lit (.string ⟨#[46,35,46,46]⟩),.lit (.string ⟨#[111,46,46,111]⟩)] 9),(1200057,.cells [.lit (.int .i64 (.ofNat 3)),.lit (.int .i64 (.ofNat 0))] 3)],1300000,⟨.lit (.int .i64 (.ofNat 3)),[],1300027⟩⟩
theorem w4_12_ok:PcOk Tryz.prog 68 w4_12:=pc_of evL_ok (by kernel_rfl)
noncomputable def w4_15:PC:=⟨[.agg [.sl 1 0 3 3 1 true,.lit (.int .i64 (.ofNat 4))],.lit (.int .i64 (.ofNat 1))],[(1,.cells [.lit (.string ⟨#[111,46,46,111]⟩),.lit (.string ⟨#[46,35,46,46]⟩),.lit (.string ⟨#[111,46,46,111]⟩)] 9)],1600000,⟨.tup [.agg [.sl 1600082 0 4 4 1 false,.lit (.int .i64 (.ofNat 4))],.lit (.int .i64 (.ofNat 0))],[(1600082,some (.cells [.lit (.string ⟨#[111,46,111]⟩),.lit (.string ⟨#[46,35,46]⟩),.lit (.string ⟨#[46,46,46]⟩),.lit (.string ⟨#[111,46,111]⟩)] 9))],1600083⟩⟩
theorem w4_15_ok:PcOk Tryz.prog 71 w4_15:=pc_of evL_ok (by kernel_rfl)
noncomputable def w4_18:PC:=⟨[.agg [.sl 1 0 3 3 1 true,.lit (.int .i64 (.ofNat 4))],.agg [.sl 1800100 0 3 3 1 true,.lit (.int .i64 (.ofNat 3))]],[(1,.cells [.lit (.string ⟨#[111,46,46,111]⟩),.lit (.string ⟨#[46,35,46,46]⟩),.lit (.string ⟨#[111,46,46,111]⟩)] 9),(1800100,.cells [.lit (.string ⟨#[111,46,46,111]⟩),.lit (.string ⟨#[46,35,46,46]⟩),.lit (.string ⟨#[111,46,46,111]⟩)] 9)],1900000,⟨.lit (.tuple #[.int .i64 (.ofNat 0),.int .i64 (.ofNat 15)]),[],1900250⟩⟩
theorem w4_18_ok:PcOk Tryz.prog 72 w4_18:=pc_of evL_ok (by kernel_rfl)
end Go.Proofs.YtifehdoghfnhoaaGreatDoor.Ev
