/- crossbandlaw01.Works returns true, in every world: reckoned by the kernel. -/
import Derived.Test.YtifehdoghfnhoaaGreatDoorZEvW0
namespace Go.Proofs.YtifehdoghfnhoaaGreatDoor.Ev
open Go.RowKit Go.Shelf
set_option maxRecDepth 100000 in
theorem works01(W:World):Calls Tryz.prog 60 #[] W (λe W'=>e=.returned (.bool true)/\Gr W W'):=
 reckon (hk:=mapsH) mapsH_ok rfl mixed_ok fnT_ok (noOrc_ok _) (d:=30) (f:=60) (args:=[]) (v:=.bool true) (by kernel_rfl) W
end Go.Proofs.YtifehdoghfnhoaaGreatDoor.Ev
