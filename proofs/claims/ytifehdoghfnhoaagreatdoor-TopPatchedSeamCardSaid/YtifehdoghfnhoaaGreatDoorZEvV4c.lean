/- Closed calls are reckoned by the kernel: calls of crossband/crossbandlaw04.Works, reckoned ahead. -/
import Derived.Test.YtifehdoghfnhoaaGreatDoorZEvLg
namespace Go.Proofs.YtifehdoghfnhoaaGreatDoor.Ev
open Go.RowKit Go.Shelf
noncomputable def w4_2:PC:=⟨[.agg [.sl 1 0 3 3 1 true,.lit (.int .i64 (.ofNat 4))],.lit (.agg #[.int .i64 (.ofNat 0),.int .i64 (.ofNat 1),.int .i64 (.ofNat 1),.int .i64 (.ofNat 4)])],[(1,.cells [.lit (.string ⟨#[111,46,46,111]⟩),.lit (.string ⟨#[46,35,46,46]⟩),.lit (.string ⟨#[111,46,46,111]⟩)] 9)],300000,⟨.lit (.int .i64 (.ofNat 3)),[],300035⟩⟩
theorem w4_2_ok:PcOk Tryz.prog 65 w4_2:=pc_of evL_ok (by kernel_rfl)
noncomputable def w4_5:PC:=⟨[.agg [.sl 1 0 3 3 1 true,.lit (.int .i64 (.ofNat 4))],.sl 500103 0 1 1 4 false],[(1,.cells [.lit (.string ⟨#[111,46,46,111]⟩),.lit (.string ⟨#[46,35,46,46]⟩),.lit (.string ⟨#[111,46,46,111]⟩)] 9),(500103,.cells [.lit (.int .i64 (.ofNat 0)),.lit (.int .i64 (.ofNat 0)),.lit (.int .i64 (.ofNat 1)),.lit (.int .i64 (.ofNat 4))] 49)],600000,⟨.lit (.tuple #[.int .i64 (.ofNat 0),.int .i64 (.ofNat 14)]),[],600062⟩⟩
theorem w4_5_ok:PcOk Tryz.prog 12 w4_5:=pc_of evL_ok (by kernel_rfl)
noncomputable def w4_8:PC:=⟨[.agg [.sl 1 0 3 3 1 true,.lit (.int .i64 (.ofNat 4))]],[(1,.cells [.lit (.string ⟨#[111,46,46,111]⟩),.lit (.string ⟨#[46,35,46,46]⟩),.lit (.string ⟨#[111,46,46,111]⟩)] 9)],900000,⟨.tup [.sl 900507 0 2 2 4 true,.lit (.int .i64 (.ofNat 0))],[(900507,some (.cells [.lit (.int .i64 (.ofNat 0)),.lit (.int .i64 (.ofNat 0)),.lit (.int .i64 (.ofNat 3)),.lit (.int .i64 (.ofNat 1)),.lit (.int .i64 (.ofNat 0)),.lit (.int .i64 (.ofNat 3)),.lit (.int .i64 (.ofNat 3)),.lit (.int .i64 (.ofNat 1))] 49))],900508⟩⟩
theorem w4_8_ok:PcOk Tryz.prog 24 w4_8:=pc_of evL_ok (by kernel_rfl)
noncomputable def w4_11:PC:=⟨[.agg [.sl 1 0 3 3 1 true,.lit (.int .i64 (.ofNat 4))],.sl 1100057 0 2 2 1 true],[(1,.cells [.lit (.string ⟨#[111,46,46,111]⟩),.lit (.string ⟨#[46,35,46,46]⟩),.lit (.string ⟨#[111,46,46,111]⟩)] 9),(1100057,.cells [.lit (.int .i64 (.ofNat 0)),.lit (.int .i64 (.ofNat 1))] 3)],1200000,⟨.lit (.int .i64 (.ofNat 16)),[],1200057⟩⟩
theorem w4_11_ok:PcOk Tryz.prog 68 w4_11:=pc_of evL_ok (by kernel_rfl)
noncomputable def w4_14:PC:=⟨[.agg [.sl 1400306 0 3 3 1 true,.lit (.int .i64 (.ofNat 36))]],[(1400306,.cells [.lit (.string ⟨#[111,46,46,111]⟩),.lit (.string ⟨#[46,35,46,46]⟩),.lit (.string ⟨#[111,46,46,111]⟩)] 9)],1500000,⟨.lit (.tuple #[.agg #[.int .i64 (.ofNat 0),.int .i64 (.ofNat 2),.int .i64 (.ofNat 3),.int .i64 (.ofNat 2)],.int .i64 (.ofNat 0)]),[],1500131⟩⟩
theorem w4_14_ok:PcOk Tryz.prog 70 w4_14:=pc_of evL_ok (by kernel_rfl)
noncomputable def w4_17:PC:=⟨[.agg [.sl 1 0 3 3 1 true,.lit (.int .i64 (.ofNat 4))],.agg [.sl 4 0 4 4 1 true,.lit (.int .i64 (.ofNat 4))]],[(1,.cells [.lit (.string ⟨#[111,46,46,111]⟩),.lit (.string ⟨#[46,35,46,46]⟩),.lit (.string ⟨#[111,46,46,111]⟩)] 9),(4,.cells [.lit (.string ⟨#[111,46,111]⟩),.lit (.string ⟨#[46,35,46]⟩),.lit (.string ⟨#[46,46,46]⟩),.lit (.string ⟨#[111,46,111]⟩)] 9)],1800000,⟨.lit (.tuple #[.int .i64 (.ofNat 1),.int .i64 (.ofNat 0)]),[],1800099⟩⟩
theorem w4_17_ok:PcOk Tryz.prog 72 w4_17:=pc_of evL_ok (by kernel_rfl)
noncomputable def w4_20:PC:=⟨[.agg [.sl 1600082 0 4 4 1 false,.lit (.int .i64 (.ofNat 4))],.agg [.sl 4 0 4 4 1 true,.lit (.int .i64 (.ofNat 4))]],[(1600082,.cells [.lit (.string ⟨#[111,46,111]⟩),.lit (.string ⟨#[46,35,46]⟩),.lit (.string ⟨#[46,46,46]⟩),.lit (.string ⟨#[111,46,111]⟩)] 9),(4,.cells [.lit (.string ⟨#[111,46,111]⟩),.lit (.string ⟨#[46,35,46]⟩),.lit (.string ⟨#[46,46,46]⟩),.lit (.string ⟨#[111,46,111]⟩)] 9)],2100000,⟨.lit (.bool true),[],2100002⟩⟩
theorem w4_20_ok:PcOk Tryz.prog 77 w4_20:=pc_of evL_ok (by kernel_rfl)
end Go.Proofs.YtifehdoghfnhoaaGreatDoor.Ev
