/- The closed facts of the row of TopSteamedPatch. -/
import Derived.Test.YtifehdoghfnhoaaGreatDoorCards
import Derived.JoinedOf
import Derived.ProofKit
namespace Go.Proofs.YtifehdoghfnhoaaGreatDoor.topSteamedPatch
open Go.ChangeShapes Go.WideShapes Go.ChangeAt Go.RowKit
theorem j0:(Rows.topSteamedPatchRow.wf (OpenSpec.ofChange Rows.topSteamedPatchSpec))=true:=by kernel_rfl
theorem j1:(laidOutB Tryz.prog)=true:=by kernel_rfl
theorem j2:(mapsRowed Tryz.prog)=true:=by kernel_rfl
theorem j3:(Tryz.f3.params.all (Tryz.prog.readableRec ·))=true:=by kernel_rfl
theorem j4:(namedTie Tryz.prog Rows.topSteamedPatchRow.named Rows.topSteamedPatchSpec.vars)=true:=by kernel_rfl
theorem j5:((Rows.topSteamedPatchRow.stops==[]))=true:=by kernel_rfl
theorem j6:((Tryz.prog.stops==[]))=true:=by kernel_rfl
theorem j7:((Rows.topSteamedPatchRow.knobs==[]))=true:=by kernel_rfl
theorem j8:((Tryz.prog.stopKnobs==[]))=true:=by kernel_rfl
theorem j9:((Rows.topSteamedPatchRow.inPlace==Tryz.prog.inPlace 3))=true:=by kernel_rfl
theorem j10:((Rows.topSteamedPatchRow.unfollowed==Tryz.prog.unfollowed 3))=true:=by kernel_rfl
theorem j11:((Rows.topSteamedPatchRow.recurses==Tryz.prog.recurses 3))=true:=by kernel_rfl
theorem j12:((Rows.topSteamedPatchRow.named==Tryz.prog.varsNamed 3))=true:=by kernel_rfl
theorem j13:((Rows.topSteamedPatchRow.maps==(Tryz.f3.params.toList++Rows.topSteamedPatchSpec.plain.varTypes Tryz.prog).any (Tryz.prog.mapsRec ·)))=true:=by kernel_rfl
theorem j14:((Rows.topSteamedPatchRow.ifaces==(Tryz.f3.params.toList++Rows.topSteamedPatchSpec.plain.varTypes Tryz.prog).any (Tryz.prog.ifacesRec ·)))=true:=by kernel_rfl
theorem j15:((Rows.topSteamedPatchRow.mapsOut==Tryz.prog.mapsAmong Tryz.f3.resultTypes.toList))=true:=by kernel_rfl
theorem j16:((Rows.topSteamedPatchRow.loops==(Tryz.f3.params.toList++Rows.topSteamedPatchSpec.plain.varTypes Tryz.prog).any (Tryz.prog.loopsFrom ·)))=true:=by kernel_rfl
theorem j17:((Rows.topSteamedPatchRow.wideKeys==(Tryz.f3.params.toList++Rows.topSteamedPatchSpec.plain.varTypes Tryz.prog++Tryz.f3.resultTypes.toList).any (Tryz.prog.wideKeysFrom ·)))=true:=by kernel_rfl
theorem j18:(Rows.topSteamedPatchSpec.vars.all (Tryz.prog.varReadable ·))=true:=by kernel_rfl
theorem j19:(Tryz.f3.resultTypes.all (λt=>Tryz.prog.readableRec t&&decide (t<Tryz.prog.types.size)))=true:=by kernel_rfl
theorem j20:((Rows.topSteamedPatchRow.ifacesOut==Tryz.f3.resultTypes.toList.any (Tryz.prog.ifacesRec ·)))=true:=by kernel_rfl
theorem j21:((Rows.topSteamedPatchRow.loopsOut==Tryz.f3.resultTypes.toList.any (Tryz.prog.loopsFrom ·)))=true:=by kernel_rfl
theorem j22:((Rows.topSteamedPatchRow.plainKeys==Tryz.prog.plainKeys))=true:=by kernel_rfl
theorem j23:(Rows.topSteamedPatchRow.shortTexts.isNone)=true:=by kernel_rfl
theorem j24:(Tryz.prog.stopsHeard)=true:=by kernel_rfl
theorem j25:(Tryz.prog.mayEnter)=true:=by kernel_rfl
theorem j26:((Rows.topSteamedPatchRow.lifted==Tryz.prog.liftsFinal))=true:=by kernel_rfl
theorem j27:((Tryz.prog.make==some Rows.topSteamedPatchRow.make))=true:=by kernel_rfl
theorem j28:((Rows.topSteamedPatchRow.kinds==(if Rows.topSteamedPatchRow.domain.isEmpty then []else Tryz.f3.params.toList.map λt=>match Tryz.prog.underlying t with|some (.int k)=>some k|_=>none)))=true:=by kernel_rfl
theorem j29:((Rows.topSteamedPatchRow.pinned==Rows.topSteamedPatchRow.pinnedBy))=true:=by kernel_rfl
theorem j30:((Rows.topSteamedPatchRow.veiled==(Tryz.f3.params.toList++Rows.topSteamedPatchSpec.plain.varTypes Tryz.prog++Tryz.f3.resultTypes.toList).any (Tryz.prog.veiledRec ·)))=true:=by kernel_rfl
theorem j31:(Rows.topSteamedPatchRow.veiledFits Tryz.prog Tryz.f3.params.toList (Tryz.f3.params.toList++Rows.topSteamedPatchSpec.plain.varTypes Tryz.prog++Tryz.f3.resultTypes.toList))=true:=by kernel_rfl
theorem wrapper:Tryz.f3.isWrapper Tryz.prog Rows.topSteamedPatchRow.wrapper Rows.topSteamedPatchRow.mainSum:=by unfold Func.isWrapper;first|(rw[if_pos (by decide+kernel)];kernel_rfl)|(rw[if_neg (by decide+kernel)];exact⟨rfl,rfl⟩)
theorem inst:Tryz.f3.isInstance Tryz.prog Rows.topSteamedPatchRow.origin Rows.topSteamedPatchRow.targs:=of_decide_eq_true (by kernel_rfl)
theorem own:ownKnob Tryz.prog.godebug=none:=by kernel_rfl
theorem named:Tryz.prog.funcNamed Rows.topSteamedPatchRow.func=some 3:=by kernel_rfl
theorem byText:Rows.topSteamedPatchRow.wfByText (OpenSpec.ofChange Rows.topSteamedPatchSpec)=true:=by kernel_rfl
theorem mainIs:Tryz.prog.mainIs=some (Rows.topSteamedPatchCard.stood.harness.1,Rows.topSteamedPatchCard.stood.harness.2.toList):=by kernel_rfl
theorem looks:false=Tryz.prog.looks []:=by kernel_rfl
theorem goes:false=Rows.topSteamedPatchRow.goesBy Tryz.prog:=by kernel_rfl
end Go.Proofs.YtifehdoghfnhoaaGreatDoor.topSteamedPatch
