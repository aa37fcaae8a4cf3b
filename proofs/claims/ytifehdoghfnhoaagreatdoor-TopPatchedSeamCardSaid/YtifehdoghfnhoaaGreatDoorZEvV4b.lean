/- Closed calls are reckoned by the kernel: calls of crossband/crossbandlaw04.Works, reckoned ahead. -/
import Derived.Test.YtifehdoghfnhoaaGreatDoorZEvLg
namespace Go.Proofs.YtifehdoghfnhoaaGreatDoor.Ev
open Go.RowKit Go.Shelf
noncomputable def w4_1:PC:=⟨[.agg [.sl 1 0 3 3 1 true,.lit (.int .i64 (.ofNat 4))],.lit (.agg #[.int .i64 (.ofNat 0),.int .i64 (.ofNat 0),.int .i64 (.ofNat 2),.int .i64 (.ofNat 2)])],[(1,.cells [.lit (.string ⟨#[111,46,46,111]⟩),.lit (.string ⟨#[46,35,46,46]⟩),.lit (.string ⟨#[111,46,46,111]⟩)] 9)],200000,⟨.lit (.int .i64 (.ofNat 20)),[],200035⟩⟩
theorem w4_1_ok:PcOk Tryz.prog 65 w4_1:=pc_of evL_ok (by kernel_rfl)
noncomputable def w4_4:PC:=⟨[.agg [.sl 1 0 3 3 1 true,.lit (.int .i64 (.ofNat 4))],.sl 400039 0 2 2 4 false],[(1,.cells [.lit (.string ⟨#[111,46,46,111]⟩),.lit (.string ⟨#[46,35,46,46]⟩),.lit (.string ⟨#[111,46,46,111]⟩)] 9),(400039,.cells [.lit (.int .i64 (.ofNat 0)),.lit (.int .i64 (.ofNat 0)),.lit (.int .i64 (.ofNat 1)),.lit (.int .i64 (.ofNat 4)),.lit (.int .i64 (.ofNat 2)),.lit (.int .i64 (.ofNat 0)),.lit (.int .i64 (.ofNat 1)),.lit (.int .i64 (.ofNat 4))] 49)],500000,⟨.lit (.tuple #[.int .i64 (.ofNat 8),.int .i64 (.ofNat 0)]),[],500101⟩⟩
theorem w4_4_ok:PcOk Tryz.prog 12 w4_4:=pc_of evL_ok (by kernel_rfl)
noncomputable def w4_7:PC:=⟨[.agg [.sl 1 0 3 3 1 true,.lit (.int .i64 (.ofNat 4))]],[(1,.cells [.lit (.string ⟨#[111,46,46,111]⟩),.lit (.string ⟨#[46,35,46,46]⟩),.lit (.string ⟨#[111,46,46,111]⟩)] 9)],800000,⟨.lit (.tuple #[.int .i64 (.ofNat 6),.int .i64 (.ofNat 0)]),[],800511⟩⟩
theorem w4_7_ok:PcOk Tryz.prog 67 w4_7:=pc_of evL_ok (by kernel_rfl)
noncomputable def w4_10:PC:=⟨[.agg [.sl 1 0 3 3 1 true,.lit (.int .i64 (.ofNat 4))],.sl 1000247 0 2 2 1 true],[(1,.cells [.lit (.string ⟨#[111,46,46,111]⟩),.lit (.string ⟨#[46,35,46,46]⟩),.lit (.string ⟨#[111,46,46,111]⟩)] 9),(1000247,.cells [.lit (.int .i64 (.ofNat 1)),.lit (.int .i64 (.ofNat 2))] 3)],1100000,⟨.lit (.int .i64 (.ofNat 0)),[],1100057⟩⟩
theorem w4_10_ok:PcOk Tryz.prog 68 w4_10:=pc_of evL_ok (by kernel_rfl)
noncomputable def w4_13:PC:=⟨[.agg [.sl 1300028 0 3 3 1 true,.lit (.int .i64 (.ofNat 3))]],[(1300028,.cells [.lit (.string ⟨#[111,46,46,111]⟩),.lit (.string ⟨#[46,35,46,46]⟩),.lit (.string ⟨#[111,46,46,111]⟩)] 9)],1400000,⟨.tup [.sl 1400302 0 2 2 1 false,.lit (.int .i64 (.ofNat 0))],[(1400246,some (.cells [.lit (.int .i64 (.ofNat 1)),.lit (.int .i64 (.ofNat 3))] 3)),(1400078,some (.cells [.lit (.int .i64 (.ofNat 0)),.lit (.int .i64 (.ofNat 2))] 3)),(1400302,some (.cells [.sl 1400078 0 2 2 1 false,.sl 1400246 0 2 2 1 false] 43))],1400305⟩⟩
theorem w4_13_ok:PcOk Tryz.prog 22 w4_13:=pc_of evL_ok (by kernel_rfl)
noncomputable def w4_16:PC:=⟨[.agg [.sl 1 0 3 3 1 true,.lit (.int .i64 (.ofNat 4))],.lit (.int .i64 (.ofNat 4))],[(1,.cells [.lit (.string ⟨#[111,46,46,111]⟩),.lit (.string ⟨#[46,35,46,46]⟩),.lit (.string ⟨#[111,46,46,111]⟩)] 9)],1700000,⟨.lit (.tuple #[.agg #[.slice none 0 0,.int .i64 (.ofNat 0)],.int .i64 (.ofNat 2)]),[],1700026⟩⟩
theorem w4_16_ok:PcOk Tryz.prog 71 w4_16:=pc_of evL_ok (by kernel_rfl)
noncomputable def w4_19:PC:=⟨[.agg [.sl 1 0 3 3 1 true,.lit (.int .i64 (.ofNat 4))],.sl 900507 0 2 2 4 true],[(1,.cells [.lit (.string ⟨#[111,46,46,111]⟩),.lit (.string ⟨#[46,35,46,46]⟩),.lit (.string ⟨#[111,46,46,111]⟩)] 9),(900507,.cells [.lit (.int .i64 (.ofNat 0)),.lit (.int .i64 (.ofNat 0)),.lit (.int .i64 (.ofNat 3)),.lit (.int .i64 (.ofNat 1)),.lit (.int .i64 (.ofNat 0)),.lit (.int .i64 (.ofNat 3)),.lit (.int .i64 (.ofNat 3)),.lit (.int .i64 (.ofNat 1))] 49)],2000000,⟨.lit (.tuple #[.int .i64 (.ofNat 6),.int .i64 (.ofNat 0)]),[],2000036⟩⟩
theorem w4_19_ok:PcOk Tryz.prog 73 w4_19:=pc_of evL_ok (by kernel_rfl)
end Go.Proofs.YtifehdoghfnhoaaGreatDoor.Ev
