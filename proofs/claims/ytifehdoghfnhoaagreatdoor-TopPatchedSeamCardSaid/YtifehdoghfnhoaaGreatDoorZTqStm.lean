/- The statement TopPatchedSeam (a tied card). No condition. -/
import Derived.Test.YtifehdoghfnhoaaGreatDoorRows
import Derived.Test.YtifehdoghfnhoaaGreatDoorZTsE
import Derived.ProofKit
import Derived.OpenShut
import Derived.WideKeyArgs
import Derived.Below
import Derived.Test.YtifehdoghfnhoaaGreatDoorZPsN
import Derived.Test.YtifehdoghfnhoaaGreatDoorZEvX5
import Derived.Test.YtifehdoghfnhoaaGreatDoorZTqJ
import Derived.Test.YtifehdoghfnhoaaGreatDoorTie
import Derived.LaidMore
import Derived.Lay
import Derived.SevenTiedAt
import Derived.Stop.Joined
namespace Go.Proofs.YtifehdoghfnhoaaGreatDoor
open Go.RowKit Go.Shelf Go.ChangeShapes Go.WideShapes Go.ChangeAt
section
variable{H:Type}{enc:TypeId×Value->H}{P:Program}{W W':World}
theorem args_stay(hl:laidOutB P=true){spare:Nat->Bool}:∀{ts:List TypeId}{vs:List Value}{ds:List (DataW H)}{ps:List MemPlace},(∀t∈ts,P.readableRec t=true/\t<P.types.size)->
 DataW.TrodAll enc P W 0 (λ_=>true) true ts vs ds ps->Below W.heap.size W W'->(∀x∈ps,x.block<W.heap.size)->(∀x∈ps,spare x.block=true)->DataW.TrodAll enc P W' 0 spare true ts vs ds ps
 |[],[],[],_,_,h,_,_,_=>h
 |t::ts,v::vs,d::ds,ps,hts,h,hb,hlt,hsp=>by
  obtain⟨p,q,h1,h2,rfl⟩:=h
  have ht:=hts t (by simp)
  refine⟨p,q,WideElems.Trod_stays hl ht.1 ht.2 h1 (λx hx=>hb.same (hlt x (by simp[hx]))) (λx hx=>hsp x (by simp[hx])),?_,rfl⟩
  exact args_stay hl (λt' ht'=>hts t' (by simp[ht'])) h2 hb (λx hx=>hlt x (by simp[hx])) (λx hx=>hsp x (by simp[hx]))
 |[],_::_,_,_,_,h,_,_,_=>h.elim
 |_::_,[],_,_,_,h,_,_,_=>h.elim
 |[],[],_::_,_,_,h,_,_,_=>h.elim
 |_::_,_::_,[],_,_,h,_,_,_=>h.elim
theorem law_done(hl:laidOutB P=true){f:Func}{s:ChangeSpec}{args:Array Value}{ds:List (DataW H)}{before:List MemPlace}{tb:TypeId}
 (hW:DataW.Whole enc P f.params.toList s.vars false W args.toList ds [] before)(hv:s.vars=[])(hts:∀t∈f.params.toList,P.readableRec t=true/\t<P.types.size)
 (hs:s.fn H ds={results:=[.lit (.bool true)],args:=ds})(hr:f.resultTypes=#[tb])(htb:P.underlying tb=some .bool)(hb:Below W.heap.size W W'):
 s.post enc P f false true false false W args (.bool true) W':=by
 have hlt:∀p∈before,p.block<W.heap.size:=λp hp=>hW.lt p hp
 obtain⟨p,q,hA,hV,hpq,hz,_⟩:=id hW
 rw[hv]at hV
 obtain⟨_,rfl⟩:=trodVars_none hV
 rw[List.append_nil]at hpq
 subst hpq
 have hres:∀(b:Nat)(sp:Nat->Bool)(hd:Bool),DataW.TrodAll enc P W' b sp hd f.resultTypes.toList ((Value.bool true).resultList f.resultTypes.size) (s.fn H (ds++[])).results []:=by
  intro b sp hd
  rw[List.append_nil,hs,hr]
  exact trodAll_cons_mk (shut_bool htb _) trodAll_mk0
 have hargs:∀sp:Nat->Bool,(∀x∈before,sp x.block=true)->DataW.TrodAll enc P W' 0 sp true f.params.toList args.toList (s.fn H (ds++[])).args before:=by
  intro sp hsp
  rw[List.append_nil,hs]
  exact args_stay hl hts hA hb hlt hsp
 have hvars:∀sp:Nat->Bool,DataW.TrodVars enc P W' sp s.vars (s.fn H (ds++[])).vars []:=by
  intro sp
  rw[List.append_nil,hs,hv]
  rfl
 have hold:∀x∈before,(λb=>decide (b<W.heap.size)) x.block=true:=λx hx=>by simpa using hlt x hx
 refine⟨ds,[],before,[],before,[],hW,hres _ _ _,hargs _ hold,hvars _,World.keptBut_mono (λx hx=>⟨hx,by simpa using hx⟩) (hb.frame (· ∈before)),λh=>by cases h⟩
end
theorem list_of{α:Type}(Q:Nat->α->Prop):∀n,(∀i,i<n->∃x,Q i x)->∃xs:List α,xs.length=n/\∀i x,xs[i]? =some x->Q i x
 |0,_=>⟨[],rfl,λi x h=>by simp at h⟩
 |n+1,h=>by
  obtain⟨xs,hl,hx⟩:=list_of Q n (λi hi=>h i (by omega))
  obtain⟨y,hy⟩:=h n (by omega)
  refine⟨xs++[y],by simp[hl],λi x hi=>?_⟩
  by_cases e:i<xs.length
  ·rw[List.getElem?_append_left e]at hi;exact hx i x hi
  ·rw[List.getElem?_append_right (by omega)]at hi
   have:i-xs.length=0:=by
    have:=(List.getElem?_eq_some_iff.1 hi).1
    simp at this
    omega
   rw[this]at hi
   simp at hi
   subst hi
   rw[show i=n from by omega]
   exact hy
section
variable{H:Type}{enc:TypeId×Value->H}{P:Program}{W:World}{sp:Nat->Bool}{held:Bool}
theorem cells_at{a:Addr}{k:Nat}{l:List Value}(h:W.cells? 0 a k=some l):l.length=k/\∀j u,l[j]? =some u->W.cell? (a.add j)=some u:=by
 unfold World.cells? at h
 rw[if_pos (Nat.zero_le _)]at h
 have h1:=mapM_some_length h
 refine⟨by simpa using h1,λj u hj=>?_⟩
 have hjl:j<k:=by have:=(List.getElem?_eq_some_iff.1 hj).1;simp at h1;omega
 rw[mapM_some_get h j j (by simp[hjl]),hj]
theorem cell_here{p:Addr}{v:Value}(h:W.cell? p=some v):p.spot=none/\p.block<W.heap.size:=by
 unfold World.cell? at h
 split at h
 ·rename_i c e f hb
  refine⟨?_,(Array.getElem?_eq_some_iff.1 hb).1⟩
  cases hs:p.spot with
  |none=>rfl
  |some x=>rw[hs]at h;simp at h
 ·cases h
theorem field_at{fuel:Nat}{fs:Array Field}{cs:List Value}{xs:List (DataW H×List MemPlace)}(hfs:∀(i:Nat)(f:Field),fs[i]? =some f->DataW.trod enc P W 0 sp held fuel f.type ((cs.drop f.offset).take (P.cellsOf f.type))=xs[i]?)
 (i:Nat) {f:Field} (hf:fs[i]? =some f) {t:TypeId} {o c:Nat} (ht:f.type=t) (ho:f.offset=o) (hc:P.cellsOf t=c) (hi:i<xs.length):DataW.trod enc P W 0 sp held fuel t ((cs.drop o).take c)=some xs[i]:=by
 subst ht ho
 rw[<-hc,hfs i f hf,List.getElem?_eq_getElem hi]
theorem open_sl{α:Type}{k:Nat}{f:α->List Value}{good:α->Prop}{t e:TypeId}(ht:P.underlying t=some (.slice e))(hc:P.cellsOf e=k)(hk:0<k)(hf:∀x,(f x).length=k)
 (hdec:∀m cs y,DataW.trod enc P W 0 sp held m e cs=some y->∃x,cs=f x/\good x){fuel:Nat}{cs:List Value}{y:DataW H×List MemPlace}(h:DataW.trod enc P W 0 sp held fuel t cs=some y):
 ∃A n c xs,cs=[.slice A n c]/\Sl k f W W.heap.size A n c xs/\∀x∈xs,good x:=by
 rcases DataW.trod_slice ht h with⟨rfl,_⟩|⟨a,len,cap,elems,rest,m,_,rfl,_,_,hl,hm,hlen,hel,_,_⟩
 ·exact⟨none,0,0,[],rfl,Sl.nil_,by simp⟩
 ·rw[hc]at hel
  obtain⟨xs,hxl,hxs⟩:=list_of (λi x=>good x/\W.cells? 0 (a.add (i*k)) k=some (f x)) len (λi hi=>by
   have h1:=hel i hi
   rw[List.getElem?_eq_getElem (by omega)]at h1
   obtain⟨l,hl1,hl2⟩:=Option.bind_eq_some_iff.1 h1
   obtain⟨x,rfl,hg⟩:=hdec _ _ _ hl2
   exact⟨x,hg,hl1⟩)
  refine⟨some a,len,cap,xs,rfl,⟨hxl,hl,by simp only[maxLen]at hm;omega,λhn=>?_⟩,λx hx=>by
   obtain⟨i,hi⟩:=List.getElem?_of_mem hx
   exact(hxs i x hi).1⟩
  have hx0:xs[0]? =some xs[0]:=List.getElem?_eq_getElem (by omega)
  have h0:=(cells_at (hxs 0 _ hx0).2).2
  have hf0:(f xs[0])[0]? =some ((f xs[0])[0]'(by rw[hf];exact hk)):=List.getElem?_eq_getElem _
  have h1:=h0 0 _ hf0
  have e1:(a.add (0*k)).add 0=a:=by simp[Addr.add]
  rw[e1]at h1
  obtain⟨hs,hb⟩:=cell_here h1
  obtain⟨b,o,s⟩:=a
  simp only at hs hb
  subst hs
  refine⟨b,o,rfl,hb,λi x hx j u hu=>?_⟩
  have h2:=(cells_at (hxs i x hx).2).2 j u hu
  have e2:((⟨b,o,none⟩:Addr).add (i*k)).add j=⟨b,o+i*k+j,none⟩:=by
   unfold Addr.add
   by_cases q1:i*k=0
   ·by_cases q2:j=0
    ·simp[q1,q2]
    ·simp[q1,q2]
   ·by_cases q2:j=0
    ·simp[q1,q2]
    ·simp[q1,q2]
  rw[e2]at h2
  exact h2
end
theorem co_long:Tryz.prog.cellsOf 2=1:=by kernel_rfl
theorem co_longs:Tryz.prog.cellsOf 40=1:=by kernel_rfl
theorem co_rows:Tryz.prog.cellsOf 53=1:=by kernel_rfl
theorem co_panel:Tryz.prog.cellsOf 55=1:=by kernel_rfl
theorem co_byte:Tryz.prog.cellsOf 5=1:=by kernel_rfl
abbrev Okay(b0:Nat)(P:Program)(W:World)(t:TypeId)(v:Value):Prop:=Value.okWide P W .any b0 t v
def okI(x:Int):Prop:=-9223372036854775808<=x/\x<=9223372036854775807
section
variable{H:Type}{enc:TypeId×Value->H}{W:World}{sp:Nat->Bool}{held:Bool}
set_option maxRecDepth 100000
theorem dec_long{m:Nat}{cs:List Value}{y:DataW H×List MemPlace}(h:DataW.trod enc Tryz.prog W 0 sp held m 2 cs=some y):∃x,cs=[.int .i64 x]/\okI x:=by
 obtain⟨n,rfl,_,hw⟩:=DataW.trod_int Tryz.underlying2 h
 exact⟨n,rfl,bounds_i64 hw⟩
theorem dec_layer{m:Nat}{cs:List Value}{y:DataW H×List MemPlace}(h:DataW.trod enc Tryz.prog W 0 sp held m 40 cs=some y):∃r:Sm.Lw,cs=Sm.encLw r/\Sl 1 encI W W.heap.size r.A r.n r.c r.xs:=by
 obtain⟨A,n,c,xs,h1,h2,_⟩:=open_sl (k:=1) (f:=encI) Tryz.underlying40 co_long (by omega) (λ_=>rfl) (λm cs y h=>dec_long h) h
 exact⟨⟨A,n,c,xs⟩,h1,h2⟩
theorem open_panel{b0:Nat}{v:Value}{d:DataW H}{ps:List MemPlace}(hv:Okay b0 Tryz.prog W 55 v)(h:DataW.Trod enc Tryz.prog W 0 sp held 55 v d ps):∃A n c ls,v=.agg #[.slice A n c]/\Sm.PanIn W A n c ls:=by
 obtain⟨cs,rfl,hsz⟩:=okWide_struct Tryz.underlying55 hv
 obtain⟨fuel,hf⟩:=h
 obtain⟨xs,n,_,_,hl,hxl,hfs⟩:=DataW.trod_struct Tryz.underlying55 hf
 rw[co_panel]at hsz
 have c3:=co_rows
 obtain⟨cl⟩:=cs
 match cl,hsz with
 |[a],_=>
  have g0:=field_at hfs 0 rfl (t:=53) rfl rfl c3 (by rw[hxl];simp)
  simp only[Value.cells]at g0
  obtain⟨A,n',c',ys,h1,h2,h3⟩:=open_sl (k:=1) (f:=Sm.encLw) Tryz.underlying53 co_longs (by omega) (λ_=>rfl) (λm cs y h=>dec_layer h) g0
  simp at h1
  subst h1
  exact⟨A,n',c',ys,rfl,h2,h3⟩
theorem dec_byte{m:Nat}{cs:List Value}{y:DataW H×List MemPlace}(h:DataW.trod enc Tryz.prog W 0 sp held m 5 cs=some y):∃x:Nat,cs=encB x/\x<256:=by
 obtain⟨n,rfl,_,hw⟩:=DataW.trod_int Tryz.underlying5 h
 have hb:=bounds_u8 hw
 exact⟨n.toNat,by unfold encB;rw[Int.toNat_of_nonneg hb.1],by omega⟩
theorem open_bytes_sl{b0:Nat}{v:Value}{d:DataW H}{ps:List MemPlace}(hv:Okay b0 Tryz.prog W 56 v)(h:DataW.Trod enc Tryz.prog W 0 sp held 56 v d ps):∃A n c xs,v=.slice A n c/\Sl 1 encB W W.heap.size A n c xs/\∀x∈xs,x<256:=by
 obtain⟨a,n,c,rfl⟩:=okWide_slice Tryz.underlying56 hv
 obtain⟨fuel,hf⟩:=h
 obtain⟨A,n',c',xs,h1,h2,h3⟩:=open_sl (k:=1) (f:=encB) Tryz.underlying56 co_byte (by omega) (λ_=>rfl) (λm cs y h=>dec_byte h) hf
 simp[Value.cells]at h1
 obtain⟨rfl,rfl,rfl⟩:=h1
 exact⟨_,_,_,xs,rfl,h2,h3⟩
end
end Go.Proofs.YtifehdoghfnhoaaGreatDoor
namespace Go.Proofs.YtifehdoghfnhoaaGreatDoor.topPatchedSeam
open Go.ChangeShapes Go.WideShapes Go.ChangeAt Go.RowKit
set_option maxRecDepth 100000 in
theorem lifted(os:Os)(started:os.Started)(H:Type)(enc:TypeId×Value->H):
 ReturnsInHanded {} Tryz.checked os 4 .any (λw args=>(Rows.topPatchedSeamSpec.pre enc Tryz.prog Tryz.f4 Rows.topPatchedSeamRow.domain false w args/\laidMetH Tryz.prog Rows.topPatchedSeamRow.laid w)/\sizedMet enc Tryz.prog Tryz.f4 (OpenSpec.ofChange Rows.topPatchedSeamSpec) false w args)
  (Rows.topPatchedSeamSpec.post enc Tryz.prog Tryz.f4 false true false false):=by
 refine returnsInHanded_of_change_and (C:=Tryz.checked) (X:=λw _=>laidMetH Tryz.prog Rows.topPatchedSeamRow.laid w) (λ_ _ _ hh h=>h.of_heap hh) own started (by kernel_rfl) Tryz.func4
  (ChangeSpec.witness_shaped (enc:=enc) (C:=Tryz.checked) (os:=os) (X:=λw _=>laidMetH Tryz.prog Rows.topPatchedSeamRow.laid w) false (World.laidAll Tryz.prog os Rows.topPatchedSeamRow.laid) #[.agg #[.slice none 0 0],.slice none 0 0] 8 (World.laidAll_os _ _ _)
    (World.shaped_of_ZipB (by kernel_rfl) (by kernel_rfl)) (by kernel_rfl) (by kernel_rfl) (by kernel_rfl)
    (by rw[MakeChecks.laidMetH_plain _ _ _ (by kernel_rfl)];exact laidMet_laidAll _ (by kernel_rfl) (by kernel_rfl))) ?_
 intro W base args ds gs before hval0 hW hcnd _ _ _
 have hW':=hW
 obtain⟨p,q,hA0,hV,rfl,hfz,hnd⟩:=hW
 have hA:DataW.TrodAll enc Tryz.prog W 0 (λ_=>true) true Tryz.f4.params.toList args.toList ds p:=hA0
 rw[Tryz.params4]at hA
 obtain⟨rfl,rfl⟩:=trodVars_none hV
 obtain⟨v0,vs0,d0,ds0,p0,q0,hv0,rfl,rfl,ht0,hr0⟩:=trodAll_cons hA
 obtain⟨v1,vs1,d1,ds1,p1,q1,hv1,rfl,rfl,ht1,hr1⟩:=trodAll_cons hr0
 subst hv1
 obtain⟨rfl,rfl,rfl⟩:=trodAll_nil hr1
 obtain⟨argl⟩:=args
 simp only at hv0
 subst hv0
 have hk0:=hval0 0 _ _ rfl rfl
 obtain⟨LA0,ln0,lc0,ls0,rfl,hs0⟩:=open_panel hk0 ht0
 have hk1:=hval0 1 _ _ rfl rfl
 obtain⟨BA1,bn1,bc1,bs1,rfl,hs1,ho1⟩:=open_bytes_sl hk1 ht1
 refine(Pa.pseam_law (Lib.hid Ev.works05) LA0 ln0 lc0 ls0 BA1 bn1 bc1 bs1 W hs0 hs1 ho1).mono λe W'⟨he,hb⟩=>?_
 subst he
 refine⟨_,rfl,law_done (tb:=4) (by kernel_rfl) hW' rfl (λt ht=>?_) rfl rfl Tryz.underlying4 hb⟩
 rw[Tryz.params4]at ht
 simp only[List.mem_cons,List.not_mem_nil,or_false]at ht
 rcases ht with rfl|rfl<;>exact⟨by kernel_rfl,of_decide_eq_true (by kernel_rfl)⟩
set_option maxRecDepth 100000 in
theorem joined:joinedFacts Tryz.prog 4 Tryz.f4 Rows.topPatchedSeamSpec Rows.topPatchedSeamRow=true:=by
 unfold joinedFacts
 simp only[Bool.and_eq_true]
 exact⟨⟨⟨⟨⟨⟨⟨⟨⟨⟨⟨⟨⟨⟨⟨⟨⟨⟨⟨⟨⟨⟨⟨⟨⟨⟨⟨⟨⟨⟨⟨j0,j1⟩,j2⟩,j3⟩,j4⟩,j5⟩,j6⟩,j7⟩,j8⟩,j9⟩,j10⟩,j11⟩,j12⟩,j13⟩,j14⟩,j15⟩,j16⟩,j17⟩,j18⟩,j19⟩,j20⟩,j21⟩,j22⟩,j23⟩,j24⟩,j25⟩,j26⟩,j27⟩,j28⟩,j29⟩,j30⟩,j31⟩
theorem row_holds:Rows.TopPatchedSeamSaid:=
 OpenClaim.holds_of_wide 4 Tryz.f4 rfl rfl rfl rfl rfl rfl rfl ⟨rfl,rfl,rfl,rfl,rfl⟩ rfl rfl rfl rfl rfl named Tryz.func4 joined inst wrapper
  (λos started H enc _=>lifted os started H enc)
theorem proved:Rows.TopPatchedSeamCardSaid:=
 Claim7.holds_tied_plain_at .later [] [.data,.pinned] true Rows.topPatchedSeamCard.stood.harness false row_holds (λ_ h=>by cases h) byText (λ_ h=>by cases h) topPatchedSeam_row_tie rfl ⟨rfl,rfl⟩ mainIs rfl
  (λf fn hf hfn=>by
    obtain rfl:f=4:=(Option.some.inj (named.symm.trans hf)).symm
    obtain rfl:fn=Tryz.f4:=(Option.some.inj (Tryz.func4.symm.trans hfn)).symm
    exact⟨looks,λj t ht=>by
     rw[show Tryz.pinned.checked.prog=Tryz.prog from rfl]
     rw[Tryz.params4]at ht
     have hm:t∈[55,56]:=by simpa using Array.mem_of_getElem? ht
     have hall:([55,56].all λu=>!Tryz.prog.wantsStandIn u)=true:=by kernel_rfl
     exact(show Tryz.prog.wantsStandIn t=false by simpa using List.all_eq_true.1 hall t hm)⟩)
  goes
end Go.Proofs.YtifehdoghfnhoaaGreatDoor.topPatchedSeam
