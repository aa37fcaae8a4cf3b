/- The closed facts of the row of TopPatchedSeam. -/
import Derived.Test.YtifehdoghfnhoaaGreatDoorCards
import Derived.JoinedOf
import Derived.ProofKit
namespace Go.Proofs.YtifehdoghfnhoaaGreatDoor.topPatchedSeam
open Go.ChangeShapes Go.WideShapes Go.ChangeAt Go.RowKit
theorem j0:(Rows.topPatchedSeamRow.wf (OpenSpec.ofChange Rows.topPatchedSeamSpec))=true:=by kernel_rfl
theorem j1:(laidOutB Tryz.prog)=true:=by kernel_rfl
theorem j2:(mapsRowed Tryz.prog)=true:=by kernel_rfl
theorem j3:(Tryz.f4.params.all (Tryz.prog.readableRec ·))=true:=by kernel_rfl
theorem j4:(namedTie Tryz.prog Rows.topPatchedSeamRow.named Rows.topPatchedSeamSpec.vars)=true:=by kernel_rfl
theorem j5:((Rows.topPatchedSeamRow.stops==[]))=true:=by kernel_rfl
theorem j6:((Tryz.prog.stops==[]))=true:=by kernel_rfl
theorem j7:((Rows.topPatchedSeamRow.knobs==[]))=true:=by kernel_rfl
theorem j8:((Tryz.prog.stopKnobs==[]))=true:=by kernel_rfl
theorem j9:((Rows.topPatchedSeamRow.inPlace==Tryz.prog.inPlace 4))=true:=by kernel_rfl
theorem j10:((Rows.topPatchedSeamRow.unfollowed==Tryz.prog.unfollowed 4))=true:=by kernel_rfl
theorem j11:((Rows.topPatchedSeamRow.recurses==Tryz.prog.recurses 4))=true:=by kernel_rfl
theorem j12:((Rows.topPatchedSeamRow.named==Tryz.prog.varsNamed 4))=true:=by kernel_rfl
theorem j13:((Rows.topPatchedSeamRow.maps==(Tryz.f4.params.toList++Rows.topPatchedSeamSpec.plain.varTypes Tryz.prog).any (Tryz.prog.mapsRec ·)))=true:=by kernel_rfl
theorem j14:((Rows.topPatchedSeamRow.ifaces==(Tryz.f4.params.toList++Rows.topPatchedSeamSpec.plain.varTypes Tryz.prog).any (Tryz.prog.ifacesRec ·)))=true:=by kernel_rfl
theorem j15:((Rows.topPatchedSeamRow.mapsOut==Tryz.prog.mapsAmong Tryz.f4.resultTypes.toList))=true:=by kernel_rfl
theorem j16:((Rows.topPatchedSeamRow.loops==(Tryz.f4.params.toList++Rows.topPatchedSeamSpec.plain.varTypes Tryz.prog).any (Tryz.prog.loopsFrom ·)))=true:=by kernel_rfl
theorem j17:((Rows.topPatchedSeamRow.wideKeys==(Tryz.f4.params.toList++Rows.topPatchedSeamSpec.plain.varTypes Tryz.prog++Tryz.f4.resultTypes.toList).any (Tryz.prog.wideKeysFrom ·)))=true:=by kernel_rfl
theorem j18:(Rows.topPatchedSeamSpec.vars.all (Tryz.prog.varReadable ·))=true:=by kernel_rfl
theorem j19:(Tryz.f4.resultTypes.all (λt=>Tryz.prog.readableRec t&&decide (t<Tryz.prog.types.size)))=true:=by kernel_rfl
theorem j20:((Rows.topPatchedSeamRow.ifacesOut==Tryz.f4.resultTypes.toList.any (Tryz.prog.ifacesRec ·)))=true:=by kernel_rfl
theorem j21:((Rows.topPatchedSeamRow.loopsOut==Tryz.f4.resultTypes.toList.any (Tryz.prog.loopsFrom ·)))=true:=by kernel_rfl
theorem j22:((Rows.topPatchedSeamRow.plainKeys==Tryz.prog.plainKeys))=true:=by kernel_rfl
theorem j23:(Rows.topPatchedSeamRow.shortTexts.isNone)=true:=by kernel_rfl
theorem j24:(Tryz.prog.stopsHeard)=true:=by kernel_rfl
theorem j25:(Tryz.prog.mayEnter)=true:=by kernel_rfl
theorem j26:((Rows.topPatchedSeamRow.lifted==Tryz.prog.liftsFinal))=true:=by kernel_rfl
theorem j27:((Tryz.prog.make==some Rows.topPatchedSeamRow.make))=true:=by kernel_rfl
theorem j28:((Rows.topPatchedSeamRow.kinds==(if Rows.topPatchedSeamRow.domain.isEmpty then []else Tryz.f4.params.toList.map λt=>match Tryz.prog.underlying t with|some (.int k)=>some k|_=>none)))=true:=by kernel_rfl
theorem j29:((Rows.topPatchedSeamRow.pinned==Rows.topPatchedSeamRow.pinnedBy))=true:=by kernel_rfl
theorem j30:((Rows.topPatchedSeamRow.veiled==(Tryz.f4.params.toList++Rows.topPatchedSeamSpec.plain.varTypes Tryz.prog++Tryz.f4.resultTypes.toList).any (Tryz.prog.veiledRec ·)))=true:=by kernel_rfl
theorem j31:(Rows.topPatchedSeamRow.veiledFits Tryz.prog Tryz.f4.params.toList (Tryz.f4.params.toList++Rows.topPatchedSeamSpec.plain.varTypes Tryz.prog++Tryz.f4.resultTypes.toList))=true:=by kernel_rfl
theorem wrapper:Tryz.f4.isWrapper Tryz.prog Rows.topPatchedSeamRow.wrapper Rows.topPatchedSeamRow.mainSum:=by unfold Func.isWrapper;first|(rw[if_pos (by decide+kernel)];kernel_rfl)|(rw[if_neg (by decide+kernel)];exact⟨rfl,rfl⟩)
theorem inst:Tryz.f4.isInstance Tryz.prog Rows.topPatchedSeamRow.origin Rows.topPatchedSeamRow.targs:=of_decide_eq_true (by kernel_rfl)
theorem own:ownKnob Tryz.prog.godebug=none:=by kernel_rfl
theorem named:Tryz.prog.funcNamed Rows.topPatchedSeamRow.func=some 4:=by kernel_rfl
theorem byText:Rows.topPatchedSeamRow.wfByText (OpenSpec.ofChange Rows.topPatchedSeamSpec)=true:=by kernel_rfl
theorem mainIs:Tryz.prog.mainIs=some (Rows.topPatchedSeamCard.stood.harness.1,Rows.topPatchedSeamCard.stood.harness.2.toList):=by kernel_rfl
theorem looks:false=Tryz.prog.looks []:=by kernel_rfl
theorem goes:false=Rows.topPatchedSeamRow.goesBy Tryz.prog:=by kernel_rfl
end Go.Proofs.YtifehdoghfnhoaaGreatDoor.topPatchedSeam
