/- crossbandlaw01.Works returns true, in every world: reckoned by the kernel. -/
import Derived.Test.YtednconodjeniaaGreatEvR
import Derived.Test.YtednconodjeniaaGreatEvU
import Derived.Test.YtednconodjeniaaGreatEvV
import Derived.KernelRfl
namespace Go.Proofs.YtednconodjeniaaGreat.Ev
open Go.RowKit Go.Shelf
def noOrc:Orc:=λ_=>none
theorem noOrc_ok(P:Program):OrcOk P noOrc:=λf g h=>by cases h
noncomputable def evP:Ev:=evN Tryz.prog (mapHook Tryz.prog) fnT.get noOrc 30
theorem evP_ok:EvOk Tryz.prog evP:=evN_ok (mapHook_ok rfl mixed_ok) rfl mixed_ok fnT_ok (noOrc_ok _) 30
end Go.Proofs.YtednconodjeniaaGreat.Ev
namespace Go.Proofs.YtednconodjeniaaGreat.Ev
open Go.RowKit Go.Shelf
set_option maxRecDepth 100000 in
theorem works01(W:World):Calls Tryz.prog 23 #[] W (λe W'=>e=.returned (.bool true)/\Gr W W'):=
 reckon (hk:=mapHook Tryz.prog) (mapHook_ok rfl mixed_ok) rfl mixed_ok fnT_ok (noOrc_ok _) (d:=30) (f:=23) (args:=[]) (v:=.bool true) (by kernel_rfl) W
end Go.Proofs.YtednconodjeniaaGreat.Ev
