/- The closed facts of the row of TopClippedSeam. -/
import Derived.Test.YtlclnbhjjdcnkaaGreatDoorCards
import Derived.JoinedOf
import Derived.ProofKit
namespace Go.Proofs.YtlclnbhjjdcnkaaGreatDoor.topClippedSeam
open Go.ChangeShapes Go.WideShapes Go.ChangeAt Go.RowKit
theorem j0:(Rows.topClippedSeamRow.wf (OpenSpec.ofChange Rows.topClippedSeamSpec))=true:=by kernel_rfl
theorem j1:(laidOutB Tryz.prog)=true:=by kernel_rfl
theorem j2:(mapsRowed Tryz.prog)=true:=by kernel_rfl
theorem j3:(Tryz.f3.params.all (Tryz.prog.readableRec ·))=true:=by kernel_rfl
theorem j4:(namedTie Tryz.prog Rows.topClippedSeamRow.named Rows.topClippedSeamSpec.vars)=true:=by kernel_rfl
theorem j5:((Rows.topClippedSeamRow.stops==[]))=true:=by kernel_rfl
theorem j6:((Tryz.prog.stops==[]))=true:=by kernel_rfl
theorem j7:((Rows.topClippedSeamRow.knobs==[]))=true:=by kernel_rfl
theorem j8:((Tryz.prog.stopKnobs==[]))=true:=by kernel_rfl
theorem j9:((Rows.topClippedSeamRow.inPlace==Tryz.prog.inPlace 3))=true:=by kernel_rfl
theorem j10:((Rows.topClippedSeamRow.unfollowed==Tryz.prog.unfollowed 3))=true:=by kernel_rfl
theorem j11:((Rows.topClippedSeamRow.recurses==Tryz.prog.recurses 3))=true:=by kernel_rfl
theorem j12:((Rows.topClippedSeamRow.named==Tryz.prog.varsNamed 3))=true:=by kernel_rfl
theorem j13:((Rows.topClippedSeamRow.maps==(Tryz.f3.params.toList++Rows.topClippedSeamSpec.plain.varTypes Tryz.prog).any (Tryz.prog.mapsRec ·)))=true:=by kernel_rfl
theorem j14:((Rows.topClippedSeamRow.ifaces==(Tryz.f3.params.toList++Rows.topClippedSeamSpec.plain.varTypes Tryz.prog).any (Tryz.prog.ifacesRec ·)))=true:=by kernel_rfl
theorem j15:((Rows.topClippedSeamRow.mapsOut==Tryz.prog.mapsAmong Tryz.f3.resultTypes.toList))=true:=by kernel_rfl
theorem j16:((Rows.topClippedSeamRow.loops==(Tryz.f3.params.toList++Rows.topClippedSeamSpec.plain.varTypes Tryz.prog).any (Tryz.prog.loopsFrom ·)))=true:=by kernel_rfl
theorem j17:((Rows.topClippedSeamRow.wideKeys==(Tryz.f3.params.toList++Rows.topClippedSeamSpec.plain.varTypes Tryz.prog++Tryz.f3.resultTypes.toList).any (Tryz.prog.wideKeysFrom ·)))=true:=by kernel_rfl
theorem j18:(Rows.topClippedSeamSpec.vars.all (Tryz.prog.varReadable ·))=true:=by kernel_rfl
theorem j19:(Tryz.f3.resultTypes.all (λt=>Tryz.prog.readableRec t&&decide (t<Tryz.prog.types.size)))=true:=by kernel_rfl
theorem j20:((Rows.topClippedSeamRow.ifacesOut==Tryz.f3.resultTypes.toList.any (Tryz.prog.ifacesRec ·)))=true:=by kernel_rfl
theorem j21:((Rows.topClippedSeamRow.loopsOut==Tryz.f3.resultTypes.toList.any (Tryz.prog.loopsFrom ·)))=true:=by kernel_rfl
theorem j22:((Rows.topClippedSeamRow.plainKeys==Tryz.prog.plainKeys))=true:=by kernel_rfl
theorem j23:(Rows.topClippedSeamRow.shortTexts.isNone)=true:=by kernel_rfl
theorem j24:(Tryz.prog.stopsHeard)=true:=by kernel_rfl
theorem j25:(Tryz.prog.mayEnter)=true:=by kernel_rfl
theorem j26:((Rows.topClippedSeamRow.lifted==Tryz.prog.liftsFinal))=true:=by kernel_rfl
theorem j27:((Tryz.prog.make==some Rows.topClippedSeamRow.make))=true:=by kernel_rfl
theorem j28:((Rows.topClippedSeamRow.kinds==(if Rows.topClippedSeamRow.domain.isEmpty then []else Tryz.f3.params.toList.map λt=>match Tryz.prog.underlying t with|some (.int k)=>some k|_=>none)))=true:=by kernel_rfl
theorem j29:((Rows.topClippedSeamRow.pinned==Rows.topClippedSeamRow.pinnedBy))=true:=by kernel_rfl
theorem j30:((Rows.topClippedSeamRow.veiled==(Tryz.f3.params.toList++Rows.topClippedSeamSpec.plain.varTypes Tryz.prog++Tryz.f3.resultTypes.toList).any (Tryz.prog.veiledRec ·)))=true:=by kernel_rfl
theorem j31:(Rows.topClippedSeamRow.veiledFits Tryz.prog Tryz.f3.params.toList (Tryz.f3.params.toList++Rows.topClippedSeamSpec.plain.varTypes Tryz.prog++Tryz.f3.resultTypes.toList))=true:=by kernel_rfl
theorem wrapper:Tryz.f3.isWrapper Tryz.prog Rows.topClippedSeamRow.wrapper Rows.topClippedSeamRow.mainSum:=by unfold Func.isWrapper;first|(rw[if_pos (by decide+kernel)];kernel_rfl)|(rw[if_neg (by decide+kernel)];exact⟨rfl,rfl⟩)
theorem inst:Tryz.f3.isInstance Tryz.prog Rows.topClippedSeamRow.origin Rows.topClippedSeamRow.targs:=of_decide_eq_true (by kernel_rfl)
theorem own:ownKnob Tryz.prog.godebug=none:=by kernel_rfl
theorem named:Tryz.prog.funcNamed Rows.topClippedSeamRow.func=some 3:=by kernel_rfl
theorem byText:Rows.topClippedSeamRow.wfByText (OpenSpec.ofChange Rows.topClippedSeamSpec)=true:=by kernel_rfl
theorem mainIs:Tryz.prog.mainIs=some (Rows.topClippedSeamCard.stood.harness.1,Rows.topClippedSeamCard.stood.harness.2.toList):=by kernel_rfl
theorem looks:false=Tryz.prog.looks []:=by kernel_rfl
theorem goes:false=Rows.topClippedSeamRow.goesBy Tryz.prog:=by kernel_rfl
end Go.Proofs.YtlclnbhjjdcnkaaGreatDoor.topClippedSeam
