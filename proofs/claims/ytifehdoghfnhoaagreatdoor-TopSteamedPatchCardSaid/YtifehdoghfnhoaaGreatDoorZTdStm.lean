/- The statement TopSteamedPatch (a tied card). No condition. -/
import Derived.Test.YtifehdoghfnhoaaGreatDoorRows
import Derived.Test.YtifehdoghfnhoaaGreatDoorZDagA
import Derived.ProofKit
import Derived.OpenShut
import Derived.WideKeyArgs
import Derived.Below
import Derived.Test.YtifehdoghfnhoaaGreatDoorZPdW
import Derived.Test.YtifehdoghfnhoaaGreatDoorZEvX4
import Derived.Test.YtifehdoghfnhoaaGreatDoorZTdJ
import Derived.Test.YtifehdoghfnhoaaGreatDoorTie
import Derived.LaidMore
import Derived.Lay
import Derived.SevenTiedAt
import Derived.Stop.Joined
namespace Go.Proofs.YtifehdoghfnhoaaGreatDoor
open Go.RowKit Go.Shelf Go.ChangeShapes Go.WideShapes Go.ChangeAt
section
variable{H:Type}{enc:TypeId×Value->H}{P:Program}{W W':World}
theorem args_stay(hl:laidOutB P=true){spare:Nat->Bool}:∀{ts:List TypeId}{vs:List Value}{ds:List (DataW H)}{ps:List MemPlace},(∀t∈ts,P.readableRec t=true/\t<P.types.size)->
 DataW.TrodAll enc P W 0 (λ_=>true) true ts vs ds ps->Below W.heap.size W W'->(∀x∈ps,x.block<W.heap.size)->(∀x∈ps,spare x.block=true)->DataW.TrodAll enc P W' 0 spare true ts vs ds ps
 |[],[],[],_,_,h,_,_,_=>h
 |t::ts,v::vs,d::ds,ps,hts,h,hb,hlt,hsp=>by
  obtain⟨p,q,h1,h2,rfl⟩:=h
  have ht:=hts t (by simp)
  refine⟨p,q,WideElems.Trod_stays hl ht.1 ht.2 h1 (λx hx=>hb.same (hlt x (by simp[hx]))) (λx hx=>hsp x (by simp[hx])),?_,rfl⟩
  exact args_stay hl (λt' ht'=>hts t' (by simp[ht'])) h2 hb (λx hx=>hlt x (by simp[hx])) (λx hx=>hsp x (by simp[hx]))
 |[],_::_,_,_,_,h,_,_,_=>h.elim
 |_::_,[],_,_,_,h,_,_,_=>h.elim
 |[],[],_::_,_,_,h,_,_,_=>h.elim
 |_::_,_::_,[],_,_,h,_,_,_=>h.elim
theorem law_done(hl:laidOutB P=true){f:Func}{s:ChangeSpec}{args:Array Value}{ds:List (DataW H)}{before:List MemPlace}{tb:TypeId}
 (hW:DataW.Whole enc P f.params.toList s.vars false W args.toList ds [] before)(hv:s.vars=[])(hts:∀t∈f.params.toList,P.readableRec t=true/\t<P.types.size)
 (hs:s.fn H ds={results:=[.lit (.bool true)],args:=ds})(hr:f.resultTypes=#[tb])(htb:P.underlying tb=some .bool)(hb:Below W.heap.size W W'):
 s.post enc P f false true false false W args (.bool true) W':=by
 have hlt:∀p∈before,p.block<W.heap.size:=λp hp=>hW.lt p hp
 obtain⟨p,q,hA,hV,hpq,hz,_⟩:=id hW
 rw[hv]at hV
 obtain⟨_,rfl⟩:=trodVars_none hV
 rw[List.append_nil]at hpq
 subst hpq
 have hres:∀(b:Nat)(sp:Nat->Bool)(hd:Bool),DataW.TrodAll enc P W' b sp hd f.resultTypes.toList ((Value.bool true).resultList f.resultTypes.size) (s.fn H (ds++[])).results []:=by
  intro b sp hd
  rw[List.append_nil,hs,hr]
  exact trodAll_cons_mk (shut_bool htb _) trodAll_mk0
 have hargs:∀sp:Nat->Bool,(∀x∈before,sp x.block=true)->DataW.TrodAll enc P W' 0 sp true f.params.toList args.toList (s.fn H (ds++[])).args before:=by
  intro sp hsp
  rw[List.append_nil,hs]
  exact args_stay hl hts hA hb hlt hsp
 have hvars:∀sp:Nat->Bool,DataW.TrodVars enc P W' sp s.vars (s.fn H (ds++[])).vars []:=by
  intro sp
  rw[List.append_nil,hs,hv]
  rfl
 have hold:∀x∈before,(λb=>decide (b<W.heap.size)) x.block=true:=λx hx=>by simpa using hlt x hx
 refine⟨ds,[],before,[],before,[],hW,hres _ _ _,hargs _ hold,hvars _,World.keptBut_mono (λx hx=>⟨hx,by simpa using hx⟩) (hb.frame (· ∈before)),λh=>by cases h⟩
end
section
variable{H:Type}{enc:TypeId×Value->H}{W:World}{sp:Nat->Bool}{held:Bool}
set_option maxRecDepth 100000
end
end Go.Proofs.YtifehdoghfnhoaaGreatDoor
namespace Go.Proofs.YtifehdoghfnhoaaGreatDoor.topSteamedPatch
open Go.ChangeShapes Go.WideShapes Go.ChangeAt Go.RowKit
set_option maxRecDepth 100000 in
theorem lifted(os:Os)(started:os.Started)(H:Type)(enc:TypeId×Value->H):
 ReturnsInHanded {} Tryz.checked os 3 .any (λw args=>(Rows.topSteamedPatchSpec.pre enc Tryz.prog Tryz.f3 Rows.topSteamedPatchRow.domain false w args/\laidMetH Tryz.prog Rows.topSteamedPatchRow.laid w)/\sizedMet enc Tryz.prog Tryz.f3 (OpenSpec.ofChange Rows.topSteamedPatchSpec) false w args)
  (Rows.topSteamedPatchSpec.post enc Tryz.prog Tryz.f3 false true false false):=by
 refine returnsInHanded_of_change_and (C:=Tryz.checked) (X:=λw _=>laidMetH Tryz.prog Rows.topSteamedPatchRow.laid w) (λ_ _ _ hh h=>h.of_heap hh) own started (by kernel_rfl) Tryz.func3
  (ChangeSpec.witness_shaped (enc:=enc) (C:=Tryz.checked) (os:=os) (X:=λw _=>laidMetH Tryz.prog Rows.topSteamedPatchRow.laid w) false (World.laidAll Tryz.prog os Rows.topSteamedPatchRow.laid) #[.int .u8 0,.int .u8 0,.int .u8 0] 8 (World.laidAll_os _ _ _)
    (World.shaped_of_ZipB (by kernel_rfl) (by kernel_rfl)) (by kernel_rfl) (by kernel_rfl) (by kernel_rfl)
    (by rw[MakeChecks.laidMetH_plain _ _ _ (by kernel_rfl)];exact laidMet_laidAll _ (by kernel_rfl) (by kernel_rfl))) ?_
 intro W base args ds gs before hval0 hW hcnd _ _ _
 have hW':=hW
 obtain⟨p,q,hA0,hV,rfl,hfz,hnd⟩:=hW
 have hA:DataW.TrodAll enc Tryz.prog W 0 (λ_=>true) true Tryz.f3.params.toList args.toList ds p:=hA0
 rw[Tryz.params3]at hA
 obtain⟨rfl,rfl⟩:=trodVars_none hV
 obtain⟨v0,vs0,d0,ds0,p0,q0,hv0,rfl,rfl,ht0,hr0⟩:=trodAll_cons hA
 obtain⟨v1,vs1,d1,ds1,p1,q1,hv1,rfl,rfl,ht1,hr1⟩:=trodAll_cons hr0
 obtain⟨v2,vs2,d2,ds2,p2,q2,hv2,rfl,rfl,ht2,hr2⟩:=trodAll_cons hr1
 subst hv2
 obtain⟨rfl,rfl,rfl⟩:=trodAll_nil hr2
 subst hv1
 obtain⟨argl⟩:=args
 simp only at hv0
 subst hv0
 have hk0:=hval0 0 _ _ rfl rfl
 obtain⟨x0,rfl,_,_,ho0⟩:=open_int Tryz.underlying5 hk0 ht0
 have hk1:=hval0 1 _ _ rfl rfl
 obtain⟨x1,rfl,_,_,ho1⟩:=open_int Tryz.underlying5 hk1 ht1
 have hk2:=hval0 2 _ _ rfl rfl
 obtain⟨x2,rfl,_,_,ho2⟩:=open_int Tryz.underlying5 hk2 ht2
 refine(Pa.steamed_law (Lib.hid Ev.works04) x0 x1 x2 W (bounds_u8 ho0) (bounds_u8 ho1) (bounds_u8 ho2)).mono λe W'⟨he,hb⟩=>?_
 subst he
 refine⟨_,rfl,law_done (tb:=4) (by kernel_rfl) hW' rfl (λt ht=>?_) rfl rfl Tryz.underlying4 hb⟩
 rw[Tryz.params3]at ht
 simp only[List.mem_cons,List.not_mem_nil,or_false]at ht
 obtain rfl:t=5:=by rcases ht with h|h|h<;>exact h
 exact⟨by kernel_rfl,of_decide_eq_true (by kernel_rfl)⟩
set_option maxRecDepth 100000 in
theorem joined:joinedFacts Tryz.prog 3 Tryz.f3 Rows.topSteamedPatchSpec Rows.topSteamedPatchRow=true:=by
 unfold joinedFacts
 simp only[Bool.and_eq_true]
 exact⟨⟨⟨⟨⟨⟨⟨⟨⟨⟨⟨⟨⟨⟨⟨⟨⟨⟨⟨⟨⟨⟨⟨⟨⟨⟨⟨⟨⟨⟨⟨j0,j1⟩,j2⟩,j3⟩,j4⟩,j5⟩,j6⟩,j7⟩,j8⟩,j9⟩,j10⟩,j11⟩,j12⟩,j13⟩,j14⟩,j15⟩,j16⟩,j17⟩,j18⟩,j19⟩,j20⟩,j21⟩,j22⟩,j23⟩,j24⟩,j25⟩,j26⟩,j27⟩,j28⟩,j29⟩,j30⟩,j31⟩
theorem row_holds:Rows.TopSteamedPatchSaid:=
 OpenClaim.holds_of_wide 3 Tryz.f3 rfl rfl rfl rfl rfl rfl rfl ⟨rfl,rfl,rfl,rfl,rfl⟩ rfl rfl rfl rfl rfl named Tryz.func3 joined inst wrapper
  (λos started H enc _=>lifted os started H enc)
theorem proved:Rows.TopSteamedPatchCardSaid:=
 Claim7.holds_tied_plain_at .later [] [.data,.pinned] true Rows.topSteamedPatchCard.stood.harness false row_holds (λ_ h=>by cases h) byText (λ_ h=>by cases h) topSteamedPatch_row_tie rfl ⟨rfl,rfl⟩ mainIs rfl
  (λf fn hf hfn=>by
    obtain rfl:f=3:=(Option.some.inj (named.symm.trans hf)).symm
    obtain rfl:fn=Tryz.f3:=(Option.some.inj (Tryz.func3.symm.trans hfn)).symm
    exact⟨looks,λj t ht=>by
     rw[show Tryz.pinned.checked.prog=Tryz.prog from rfl]
     rw[Tryz.params3]at ht
     have hm:t∈[5]:=by simpa using Array.mem_of_getElem? ht
     have hall:([5].all λu=>!Tryz.prog.wantsStandIn u)=true:=by kernel_rfl
     exact(show Tryz.prog.wantsStandIn t=false by simpa using List.all_eq_true.1 hall t hm)⟩)
  goes
end Go.Proofs.YtifehdoghfnhoaaGreatDoor.topSteamedPatch
