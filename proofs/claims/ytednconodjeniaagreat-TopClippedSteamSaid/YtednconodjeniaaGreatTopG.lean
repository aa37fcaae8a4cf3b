/- The walk of TopClippedSteam. -/
import Derived.Test.YtednconodjeniaaGreatTopF
import Derived.Test.YtednconodjeniaaGreatCPricesOk
import Derived.Test.YtednconodjeniaaGreatCRefRib
import Derived.Test.YtednconodjeniaaGreatCRefCuts
import Derived.Test.YtednconodjeniaaGreatEvX
import Derived.Deep.AppendLies
import Derived.Deep.RegionHeld3
namespace Go.Proofs.YtednconodjeniaaGreat
open Go.RowKit Go.Shelf
structure RW(w W:World)(B0:Nat)(L:Int)(FA:Option Addr)(fn fc:Nat)(fs:List Int):Prop where
 bel:Below w.heap.size w W
 b0:Blk W B0 24 #[.int .i64 L,.slice FA fn fc]
 sl:Sl 1 encI W W.heap.size FA fn fc fs
section
variable{w W W':World}{B0:Nat}{L:Int}{FA:Option Addr}{fn fc:Nat}{fs:List Int}
theorem RW.later(h:RW w W B0 L FA fn fc fs)(hb:Below W.heap.size W W'):RW w W' B0 L FA fn fc fs:=⟨Below.later h.bel hb,h.b0.later hb,h.sl.later hb⟩
theorem RW.cells(h:RW w W B0 L FA fn fc fs):W.cell? ⟨B0,0,none⟩=some (.int .i64 L)/\W.cell? ⟨B0,1,none⟩=some (.slice FA fn fc)/\B0<W.heap.size:=⟨h.b0.cell 0,h.b0.cell 1,h.b0.lt⟩
end
structure TW(w W:World)(K P:Nat)(L:Int)(FA:Option Addr)(fn fc:Nat)(wd:Nat)(v:Value)(xs:List Rg):Prop where
 bx:BX w W w.heap.size P 33 10 v xs
 b0:Blk W w.heap.size 24 #[.int .i64 L,.slice FA fn fc]
 bk:Blk W K 29 #[.int .i64 wd,.int .i64 1,.int .i64 0]
 hK:w.heap.size<K
 hP:K<P
section
variable{w W W':World}{K P:Nat}{L:Int}{FA:Option Addr}{fn fc wd:Nat}{v:Value}{xs:List Rg}
theorem TW.later(h:TW w W K P L FA fn fc wd v xs)(hb:Below W.heap.size W W'):TW w W' K P L FA fn fc wd v xs:=⟨h.bx.later hb,h.b0.later hb,h.bk.later hb,h.hK,h.hP⟩
theorem TW.grown(h:TW w W K P L FA fn fc wd v xs){v':Value}{x:Rg}(hg:W.grownBy W' v.ownBlock)(ho:W'.ownsRow w.heap.size 36 2 v' (xs.length+1) (xs.flatMap encR++encR x)):TW w (W'.setCell ⟨P,1,none⟩ v') K P L FA fn fc wd v' (xs++[x]):=
 ⟨h.bx.grown (by decide) hg ho,(h.b0.grown hg (h.b0.notRow h.bx.own (by decide))).other (by show P≠_;have:=h.hK;have:=h.hP;omega) _,(h.bk.grown hg (h.bk.notRow h.bx.own (by decide))).other (by show P≠_;have:=h.hP;omega) _,h.hK,h.hP⟩
end
structure YT(W:World)(P:Nat)(A:Option Addr)(n c:Nat)(rs:List Rg):Prop where
 b0:Blk W P 33 #[.int .i64 10,.slice A n c]
 sl:Sl 2 encR W W.heap.size A n c rs
theorem YT.later{W W':World}{P:Nat}{A:Option Addr}{n c:Nat}{rs:List Rg}(h:YT W P A n c rs)(hb:Below W.heap.size W W'):YT W' P A n c rs:=⟨h.b0.later hb,h.sl.later hb⟩
theorem YT.cells{W:World}{P:Nat}{A:Option Addr}{n c:Nat}{rs:List Rg}(h:YT W P A n c rs):W.cell? ⟨P,0,none⟩=some (.int .i64 10)/\W.cell? ⟨P,1,none⟩=some (.slice A n c)/\P<W.heap.size:=⟨h.b0.cell 0,h.b0.cell 1,h.b0.lt⟩
structure PX(w W:World)(n:Nat)(M:Nat->Int):Prop where
 bel:Below w.heap.size w W
 b0:Blk W w.heap.size 2 (numArr n M)
theorem PX.set{w W:World}{n:Nat}{M:Nat->Int}(h:PX w W n M)(j:Nat)(x:Int):PX w (W.setCell ⟨w.heap.size,j,none⟩ (.int .i64 x)) n (updN M j x):=by
 refine⟨bset h.bel (by simp) _,?_⟩
 have h1:=h.b0.set j (.int .i64 x)
 rw[numArr_set]at h1
 exact h1
theorem PX.sl{w W:World}{n:Nat}{M:Nat->Int}(h:PX w W n M)(hn:n<=1000):Sl 1 encI W W.heap.size (some ⟨w.heap.size,0,none⟩) n n ((List.range n).map M):=
 ⟨by simp,Nat.le_refl _,by omega,λ_=>⟨w.heap.size,0,rfl,h.b0.lt,λi x hx j u hu=>by
     have hi:=(List.getElem?_eq_some_iff.1 hx).1
     have hj:=(List.getElem?_eq_some_iff.1 hu).1
     simp[encI]at hj
     subst hj
     have hi':i<n:=by simpa using hi
     rw[show 0+i*1+0=i by omega,h.b0.cell,numArr_get hi']
     rw[List.getElem?_map,List.getElem?_range hi']at hx
     simp at hx
     rw[hx]
     simpa[encI]using hu⟩⟩
def prAt(hs:List Int)(i:Nat):Nat->Int:=λj=>if 0<cntP (hs.take i) j then 1 else 0
theorem prAt_zero(hs:List Int):prAt hs 0=λ_=>0:=by
 funext j
 simp[prAt,cntP]
theorem prAt_succ{hs:List Int}{i x:Nat}(h:hs[i]? =some (x:Int)):updN (prAt hs i) x 1=prAt hs (i+1):=by
 obtain⟨h1,h2⟩:=List.getElem?_eq_some_iff.1 h
 funext j
 unfold prAt updN
 rw[List.take_succ_eq_append_getElem h1,h2]
 unfold cntP
 rw[List.countP_append]
 by_cases e:j=x
 ·subst e
  rw[if_pos rfl]
  simp
 ·rw[if_neg e]
  have e2:¬((x:Int)=(j:Int)):=by omega
  simp[e2]
structure WX(w W:World)(v:Value)(xs:List Rg):Prop where
 bel:Below w.heap.size w W
 own:W.ownsRow w.heap.size 36 2 v xs.length (xs.flatMap encR)
theorem WX.grown{w W W':World}{v v':Value}{xs:List Rg}{x:Rg}(h:WX w W v xs)(hg:W.grownBy W' v.ownBlock)(ho:W'.ownsRow w.heap.size 36 2 v' (xs.length+1) (xs.flatMap encR++encR x)):WX w W' v' (xs++[x]):=
 ⟨h.bel.trans ⟨hg.os,hg.tape,hg.output,hg.size,λi hi=>hg.block i (by have:=h.bel.size;omega) (λe=>by have:=own_base h.own i e.symm;omega)⟩,by simpa[List.flatMap_append]using ho⟩
theorem WX.later{w W W':World}{v:Value}{xs:List Rg}(h:WX w W v xs)(hb:Below W.heap.size W W'):WX w W' v xs:=⟨Below.later h.bel hb,own_later h.own hb⟩
theorem win_take{wd i:Nat}{l:List Sh}{s:Sh}(h:l[i]? =some s):winOf wd (l.take (i+1))=winOf wd (l.take i)++[⟨s.f,s.f+wd-1⟩]:=by
 obtain⟨h1,h2⟩:=List.getElem?_eq_some_iff.1 h
 unfold winOf
 rw[List.take_succ_eq_append_getElem h1,h2,List.map_append]
 rfl
set_option maxRecDepth 100000 in
set_option maxHeartbeats 8000000 in
theorem steam_law(L:Int)(FA:Option Addr)(fn fc:Nat)(fs:List Int)(wu:Int)(w:World)(hfs:Sl 1 encI w w.heap.size FA fn fc fs)(hwu:0<=wu/\wu<=255):
 Calls Tryz.prog 3 #[.agg #[.int .i64 L,.slice FA fn fc],.int .u8 wu] w λe w'=>e=.returned (.bool true)/\Below w.heap.size w w':=by
 have hB:=balloc (brefl w) (.cells #[.int .i64 L,.slice FA fn fc] 24)
 have HK0:=Lib.hid (show RW w (w.alloc (.cells #[.int .i64 L,.slice FA fn fc] 24)) w.heap.size L FA fn fc fs from⟨hB,Blk.new w _ _,hfs.later hB⟩)
 have Hfs:=Lib.hid hfs
 clear hB hfs
 obtain⟨c0,c1,c2⟩:=HK0.out.cells
 by_cases hfn:(30:Int)<(fn:Int)
 case pos=>
  clear Hfs
  go_enter Tryz.func3,Tryz.ntmps3
  go_wp2_with fail
  refine(Ev.works03 _).mono ?_
  rintro e we⟨rfl,hbe⟩
  have HBE:=Lib.hid (Below.later HK0.out.bel hbe)
  clear hbe
  go_wp2
  go_ret
  exact⟨rfl,HBE.out⟩
 case neg=>
 have Hrib:=Lib.hid (λW h=>C.refRib_any L FA fn fc fs W h)
 by_cases hrb:C.ribE L fs=0
 case neg=>
  obtain⟨q,hq⟩:∃q,C.ribE L fs=q:=⟨_,rfl⟩
  rw[hq]at Hrib hrb
  have d1:(q != 0)=true:=by simpa using hrb
  clear hq
  go_enter Tryz.func3,Tryz.ntmps3
  go_wp2_with fail
  refine(Hrib.out _ HK0.out.sl).mono ?_
  rintro e w1⟨rfl,hb⟩
  have HK1:=Lib.hid (HK0.out.later hb)
  clear hb HK0 c0 c1 c2
  obtain⟨c0,c1,c2⟩:=HK1.out.cells
  go_wp2_with fail
  refine(Ev.works03 _).mono ?_
  rintro e we⟨rfl,hbe⟩
  have HBE:=Lib.hid (Below.later HK1.out.bel hbe)
  clear hbe
  go_wp2
  go_ret
  exact⟨rfl,HBE.out⟩
 case pos=>
 obtain⟨hL,_⟩:=C.ribE_zero hrb
 obtain⟨Ln,rfl⟩:∃n:Nat,L=n:=⟨L.toNat,by omega⟩
 obtain⟨t,ht⟩:∃t,wu.tmod (Ln:Int)=t:=⟨_,rfl⟩
 have htr:0<=t/\t<Ln:=by
  rw[<-ht,Int.tmod_eq_emod_of_nonneg hwu.1]
  exact⟨Int.emod_nonneg _ (by omega),Int.emod_lt_of_pos _ (by omega)⟩
 obtain⟨wd,hwd⟩:∃wd:Nat,1+t=wd:=⟨(1+t).toNat,by omega⟩
 have hwd1:1<=wd/\wd<=24:=by omega
 have hLn:1<=Ln/\Ln<=24:=by omega
 have k1:IntKind.i64.wrap wu=wu:=by rw[IntKind.wrap_i64];omega
 have k2:IntKind.i64.wrap t=t:=by rw[IntKind.wrap_i64];omega
 have k3:IntKind.i64.wrap (1+t)=(wd:Int):=by rw[IntKind.wrap_i64];omega
 have k4:¬((Ln:Int)=0):=by omega
 have HLn:=Lib.hid hLn
 have Hwd:=Lib.hid hwd1
 rw[hrb]at Hrib
 have hrk:C.rkE (Ln:Int) fs [⟨wd,1,0⟩]=0:=by
  unfold C.rkE
  rw[if_pos hrb]
  unfold C.kndE
  have h1:=(C.badK_iff ⟨wd,1,0⟩).2 (by show((1:Int)<=(wd:Int)/\(wd:Int)<=24)/\(1<=(1:Int)/\(1:Int)<=1000)/\((0:Int)<=0/\(0:Int)<=24);omega)
  simp[h1,C.inR]
 have Hrk:=Lib.hid hrk
 clear hrk hrb hL hwd htr hwd1 hLn hwu
 go_enter Tryz.func3,Tryz.ntmps3
 go_wp2_with fail
 refine(Hrib.out _ HK0.out.sl).mono ?_
 rintro e w2⟨rfl,hb⟩
 have HK1:=Lib.hid (HK0.out.later hb)
 clear hb HK0 c0 c1 c2
 obtain⟨c0,c1,c2⟩:=HK1.out.cells
 clear Hrib
 have hb0:=Blk.new w2 29 #[.int .i64 wd,.int .i64 1,.int .i64 0]
 have hb1:=Blk.new (w2.alloc (.cells #[.int .i64 wd,.int .i64 1,.int .i64 0] 29)) 33 #[.int .i64 10,.slice none 0 0]
 rw[World.size_alloc]at hb1
 have HT:=Lib.hid (show TW w ((w2.alloc (.cells #[.int .i64 wd,.int .i64 1,.int .i64 0] 29)).alloc (.cells #[.int .i64 10,.slice none 0 0] 33)) w2.heap.size (w2.heap.size+1) (Ln:Int) FA fn fc wd (.slice none 0 0) (logsTo Ln wd (C.Fst fs Ln) 0)from
  ⟨⟨balloc (balloc HK1.out.bel _) _,hb1,by simpa[logsTo]using World.ownsRow_nil _ _ _ _,by omega⟩,(HK1.out.b0.alloc _).alloc _,hb0.alloc _,c2,by omega⟩)
 go_wp2_with fail
 clear c0 c1 c2 hb0 hb1
 obtain⟨K,hK⟩:∃K,w2.heap.size=K:=⟨_,rfl⟩
 rw[hK]at HT ⊢
 clear hK HK1
 obtain⟨P,hP⟩:∃P,K+1=P:=⟨_,rfl⟩
 rw[hP]at HT ⊢
 clear hP
 refine loop_n (λq a W=>a.defers=[]/\∃(i:Nat)(v:Value),i+q=Ln/\TW w W K P (Ln:Int) FA fn fc wd v (logsTo Ln wd (C.Fst fs Ln) i)/\Fits (none::none::some (.pointer (some ⟨w.heap.size,0,none⟩))::none::none::some (.int .i64 wd)::some (.slice (some ⟨K,0,none⟩) 1 1)::some (.pointer (some ⟨P,0,none⟩))::some (.int .i64 (i:Nat))::none::none::none::none::none::none::none::none::none::none::none::none::none::none::none::none::none::none::none::none::none::none::none::none::none::none::none::none::none::none::none::none::none::none::none::none::none::none::none::none::none::none::none::none::none::none::none::none::none::none::none::none::none::none::none::none::none::none::none::none::none::none::none::none::none::none::none::none::none::none::none::none::none::none::none::none::none::none::none::none::none::none::none::none::none::none::none::none::none::none::none::none::none::none::none::none::none::none::none::none::none::none::none::none::none::none::none::none::none::none::none::none::none::none::none::none::none::none::none::none::none::none::none::none::none::none::none::none::none::none::none::none::none::none::none::none::none::none::none::none::none::none::none::none::none::none::none::none::none::none::none::none::none::none::none::none::none::none::none::none::none::none::none::none::none::none::none::none::none::none::none::none::none::none::none::none::none::none::none::none::none::none::none::none::none::none::none::none::none::none::none::none::none::none::none::none::none::[]) a.tmps.toList) Ln ?_ ?_
 ·refine⟨rfl,0,_,by omega,HT.out,?_⟩
  repeat (first|exact fits_nil|refine fits_none ?_|refine fits_some ?_)
 clear HT
 intro q a W hI K1 hK
 obtain⟨hds,i,v,hiq,hT,hfit⟩:=hI
 obtain⟨f',hf'⟩:=fits_act hfit
 rw[hds]at hf'
 subst hf'
 clear hfit hds
 simp only[fillP,Nat.reduceAdd]
 have c0:=hT.b0.cell 0
 have c1:=hT.b0.cell 1
 have c2:=hT.b0.lt
 have HT:=Lib.hid hT
 by_cases hlt:i<Ln
 ·have i1:(i:Int)<(Ln:Int):=by omega
  have i2:IntKind.i64.wrap ((i:Int)+1)=(i:Int)+1:=by rw[IntKind.wrap_i64];have:=HLn.out;omega
  have i3:IntKind.i64.wrap ((i:Int)+(wd:Int))=(i:Int)+(wd:Int):=by rw[IntKind.wrap_i64];have:=HLn.out;have:=Hwd.out;omega
  have i4:IntKind.i64.wrap ((i:Int)+(wd:Int)-1)=(i:Int)+(wd:Int)-1:=by rw[IntKind.wrap_i64];have:=HLn.out;have:=Hwd.out;omega
  have d0:=hT.bk.cell 0
  have d1:=hT.bk.cell 1
  have d2:=hT.bk.cell 2
  have d3:=hT.bk.lt
  have Hstep:=Lib.hid (logsTo_succ Ln wd (C.Fst fs Ln) i)
  have hll:=logsTo_len Ln wd (C.Fst fs Ln) i
  obtain⟨xs,hxs⟩:∃xs,logsTo Ln wd (C.Fst fs Ln) i=xs:=⟨_,rfl⟩
  rw[hxs]at hT HT hll Hstep
  obtain⟨cq,hcq⟩:∃q,C.canB Ln (C.Fst fs Ln) ⟨wd,1,0⟩ i=q:=⟨_,rfl⟩
  rw[hcq]at Hstep
  have Hcan:=Lib.hid (λW(h:Sl 1 encI W W.heap.size FA fn fc fs)=>C.refCan_any Ln FA fn fc fs ⟨wd,1,0⟩ i W h (by have:=Hwd.out;show(1:Int)<=(wd:Int);omega) (by have:=Hwd.out;show(wd:Int)<=24;omega) HLn.out.2 (by have:=HLn.out;omega))
  rw[hcq]at Hcan
  have Hxl:=Lib.hid (show xs.length<=24 by have:=HLn.out;omega)
  clear hxs hcq hT hll
  go_wp2_with fail
  refine dag 6 (by kernel_rfl) (by kernel_rfl) (.is ?_::.is ?_::.is ?_::.is ?_::.is ?_::.is ?_::[]) rfl ?sta ?oba
  case sta=>simp[Spec.ok]
  case oba=>
  intro env V hG
  obtain⟨hc,hf⟩:=bcell hG
  iterate 5 (refine obls_is ?_ ?_;unfold doesAt;go_simp;(try go_bits);(first|(refine⟨brefl _,?_⟩;rfl)|rfl);intro K hK;go_simp;refine hK _ ?_;clear hK K)
  refine obls_is ?_ ?_
  ·unfold doesAt
   go_simp
   refine(Hcan.out V (Hfs.out.later (Below.later HT.out.bx.bel hG))).mono ?_
   rintro e w1⟨rfl,hb1⟩
   (refine⟨?_,hb1⟩;rfl)
  intro K hK
  go_simp
  refine hK _ ?_
  clear hK K
  refine obls_nil (λ_=>?_)
  have HT1:=Lib.hid (HT.out.later hG)
  clear hc hf hG HT d0 d1 d2 d3 c0 c1 c2 Hcan
  have hT1:=HT1.out
  have c0:=hT1.b0.cell 0
  cases cq with
  |false=>
   clear hT1
   have hst:=Hstep.out
   simp only[Bool.false_eq_true,if_false]at hst
   go_wp2
   refine hK _ _ (q-1) (by omega) ⟨rfl,i+1,v,by omega,by rw[hst];exact HT1.out,?_⟩
   repeat (first|exact fits_nil|refine fits_none ?_|refine fits_some ?_)
  |true=>
   have hst:=Hstep.out
   simp only[if_true]at hst
   have Hst:=Lib.hid hst
   obtain⟨i0,hi0,hz0,hz1,hz2⟩:=info_parts info_rg
   have b1:=hT1.bx.bp.cell 1
   have b2:=hT1.bx.bp.lt
   have hne:=hT1.bx.bp.notRow hT1.bx.own (by decide)
   have HNw:=Lib.hid (two_new V (.int .i64 (i:Int)) (.int .i64 ((i:Int)+(wd:Int)-1)) 36)
   have HPa:=Lib.hid (hT1.later (balloc (brefl V) (.cells #[.int .i64 (i:Int),.int .i64 ((i:Int)+(wd:Int)-1)] 36)))
   have HVs:=Lib.hid (show w.heap.size<=V.heap.size from hT1.bx.bel.size)
   clear hT1 hst Hstep HT1
   go_wp2_with (at_builtin;refine wpList_append_own _ rfl _ _ 31 rfl w.heap.size 36 i0 (.agg #[.int .i64 0,.int .i64 0]) 2 16 und_rgs hi0 hz0 hz1 hz2 rfl (by decide) v xs.length _ rfl HPa.out.bx.own ⟨V.heap.size,0,none⟩ 1 1 [.int .i64 (i:Int),.int .i64 ((i:Int)+(wd:Int)-1)] rfl rfl HNw.out (by simp[Value.oneCell']) (by have:=Hxl.out;simp only[maxLen];omega) (by have:=Hxl.out;omega) (by have:=HVs.out;simp;omega) ?_;intro v' W3 hown' hgr _;have HP3:=Lib.hid (HPa.out.grown (x:=⟨(i:Int),(i:Int)+(wd:Int)-1⟩) hgr hown');have hb3:=HPa.out.bx.bp.grown hgr hne;have hc3:=hb3.cell 1;have hf3:=hb3.frozen 1;have hz3:=hb3.lt;obtain⟨g3,c3,rfl⟩:=own_succ hown';clear hown' hgr hb3)
   refine hK _ _ (q-1) (by omega) ⟨rfl,i+1,_,by omega,by rw[Hst.out];exact HP3.out,?_⟩
   repeat (first|exact fits_nil|refine fits_none ?_|refine fits_some ?_)
 ·obtain rfl:i=Ln:=by omega
  clear hlt hiq hK hT
  obtain⟨rs,hrs⟩:∃rs,logsTo i wd (C.Fst fs i) i=rs:=⟨_,rfl⟩
  have hsaid:=λh=>said_of (F:=C.Fst fs i) Hwd.out.1 Hwd.out.2 HLn.out.2 h
  rw[hrs]at HT hsaid
  obtain⟨A,c,rfl,hsl⟩:=HT.out.bx.sl
  obtain⟨n,hn⟩:∃n,rs.length=n:=⟨_,rfl⟩
  have hyb:=HT.out.bx.bp
  rw[hn]at hsl hyb hsaid
  have HK1:=Lib.hid (show RW w W w.heap.size (i:Int) FA fn fc fs from⟨HT.out.bx.bel,HT.out.b0,Hfs.out.later HT.out.bx.bel⟩)
  have HX1:=Lib.hid (show YT W P A n c rs from⟨hyb,hsl⟩)
  have HN1:=Lib.hid (show Sl 3 encK W W.heap.size (some ⟨K,0,none⟩) 1 1 [⟨wd,1,0⟩]from⟨rfl,by omega,by omega,λ_=>⟨K,0,rfl,HT.out.bk.lt,λj x hx k u hu=>by
   cases j with
   |succ j=>simp at hx
   |zero=>
    simp at hx
    subst hx
    simp only[encK]at hu
    rw[show 0+0*3+k=k by omega,HT.out.bk.cell]
    simpa using hu⟩⟩)
  have HT2:=Lib.hid (show w.heap.size<K/\K<P from⟨HT.out.hK,HT.out.hP⟩)
  clear hsl hyb HT c0 c1 c2 hrs
  obtain⟨c0,c1,c2⟩:=HK1.out.cells
  obtain⟨d0,d1,d2⟩:=HX1.out.cells
  by_cases hn10:(10:Int)<(n:Int)
  case pos=>
   clear hsaid
   go_wp2_with fail
   refine(Ev.works03 _).mono ?_
   rintro e we⟨rfl,hbe⟩
   have HBE:=Lib.hid (Below.later HK1.out.bel hbe)
   clear hbe
   go_wp2
   go_ret
   exact⟨rfl,HBE.out⟩
  case neg=>
  obtain⟨l,hl⟩:∃l,C.firstAt i (C.Fst fs i) [⟨wd,1,0⟩] (C.behindAt i (C.Fst fs i) [⟨wd,1,0⟩] i) i 0=l:=⟨_,rfl⟩
  obtain⟨v,hv⟩:∃v,LA rs 10 101=v:=⟨_,rfl⟩
  have hs:=hsaid (by omega)
  rw[hl,hv]at hs
  have HS:=Lib.hid hs
  have hl10:¬((10:Int)<(l.length:Int)):=by have:=hs.len;omega
  have Hworth:=Lib.hid (λW(h:Sl 1 encI W W.heap.size FA fn fc fs)(h2:Sl 3 encK W W.heap.size (some ⟨K,0,none⟩) 1 1 [⟨wd,1,0⟩])=>C.Worth_ok i FA fn fc fs (some ⟨K,0,none⟩) 1 [⟨wd,1,0⟩] W h h2 Hrk.out)
  have Hcuts:=Lib.hid (λW(h:Sl 1 encI W W.heap.size FA fn fc fs)(h2:Sl 3 encK W W.heap.size (some ⟨K,0,none⟩) 1 1 [⟨wd,1,0⟩])=>C.Cuts_ok i FA fn fc fs (some ⟨K,0,none⟩) 1 [⟨wd,1,0⟩] W h h2 Hrk.out)
  have Hfew:=Lib.hid (λW(h:Sl 2 encR W W.heap.size A n c rs)=>fewest_any 10 A n c rs W h)
  have Hhours:=Lib.hid (λW(h:Sl 2 encR W W.heap.size A rs.length c rs)=>hours_ok 10 A c rs W h hs.yard)
  rw[hs.worth]at Hworth
  rw[hl]at Hcuts
  rw[hs.few,hs.yard]at Hfew
  rw[hn]at Hhours
  have Hrange:=Lib.hid (show∀H:Nat->Int,(List.range rs.length).map H=(List.range n).map H by rw[hn];exactλ_=>rfl)
  clear hsaid hs hl hv hn
  go_wp2_with fail
  refine(Hworth.out _ HK1.out.sl HN1.out).mono ?_
  rintro e w3⟨rfl,hb⟩
  have HK2:=Lib.hid (HK1.out.later hb)
  have HX2:=Lib.hid (HX1.out.later hb)
  have HN2:=Lib.hid (HN1.out.later hb)
  clear hb HK1 HX1 HN1 c0 c1 c2 d0 d1 d2
  obtain⟨c0,c1,c2⟩:=HK2.out.cells
  obtain⟨d0,d1,d2⟩:=HX2.out.cells
  go_wp2_with fail
  refine(Hcuts.out _ HK2.out.sl HN2.out).mono ?_
  rintro e w4⟨G,rfl,hb,hsl⟩
  have HK3:=Lib.hid (HK2.out.later hb)
  have HX3:=Lib.hid (HX2.out.later hb)
  have HN3:=Lib.hid (HN2.out.later hb)
  clear hb HK2 HX2 HN2 c0 c1 c2 d0 d1 d2
  obtain⟨c0,c1,c2⟩:=HK3.out.cells
  obtain⟨d0,d1,d2⟩:=HX3.out.cells
  have HC3:=Lib.hid hsl
  clear hsl Hworth Hcuts
  go_wp2_with fail
  refine(Hfew.out _ HX3.out.sl).mono ?_
  rintro e w5⟨rfl,hb⟩
  have HK4:=Lib.hid (HK3.out.later hb)
  have HX4:=Lib.hid (HX3.out.later hb)
  have HN4:=Lib.hid (HN3.out.later hb)
  have HC4:=Lib.hid (HC3.out.later hb)
  clear hb HK3 HX3 HN3 HC3 c0 c1 c2 d0 d1 d2
  obtain⟨c0,c1,c2⟩:=HK4.out.cells
  obtain⟨d0,d1,d2⟩:=HX4.out.cells
  go_wp2_with fail
  refine(Hhours.out _ HX4.out.sl).mono ?_
  rintro e w6⟨g,lo,ts,H,rfl,hb,hf,hsl⟩
  have HK5:=Lib.hid (HK4.out.later hb)
  have HX5:=Lib.hid (HX4.out.later hb)
  have HN5:=Lib.hid (HN4.out.later hb)
  have HC5:=Lib.hid (HC4.out.later hb)
  clear hb HK4 HX4 HN4 HC4 c0 c1 c2 d0 d1 d2
  obtain⟨c0,c1,c2⟩:=HK5.out.cells
  obtain⟨d0,d1,d2⟩:=HX5.out.cells
  obtain⟨he,hin,hpr⟩:=HS.out.hrs lo ts H hf
  rw[Hrange.out]at he hin hpr
  obtain⟨hs,hhs⟩:∃hs,(List.range n).map H=hs:=⟨_,rfl⟩
  rw[hhs]at he hin hpr hsl
  have HH5:=Lib.hid hsl
  have Hhl:=Lib.hid (show hs.length=n by rw[<-hhs];simp)
  have Hhe:=Lib.hid he
  have Hin:=Lib.hid hin
  have Hpr:=Lib.hid hpr
  clear hsl hf he hin hpr hhs Hfew Hhours Hrange
  go_wp2_with fail
  refine(C.refCuts_ok i FA fn fc fs (some ⟨K,0,none⟩) 1 [⟨wd,1,0⟩] (some ⟨G,0,none⟩) l.length l.length l _ HK5.out.sl HN5.out HC5.out Hrk.out).mono ?_
  rintro e w7⟨rfl,hb⟩
  have HK6:=Lib.hid (HK5.out.later hb)
  have HX6:=Lib.hid (HX5.out.later hb)
  have HN6:=Lib.hid (HN5.out.later hb)
  have HC6:=Lib.hid (HC5.out.later hb)
  have HH6:=Lib.hid (HH5.out.later hb)
  clear hb HK5 HX5 HN5 HC5 HH5 c0 c1 c2 d0 d1 d2
  obtain⟨c0,c1,c2⟩:=HK6.out.cells
  obtain⟨d0,d1,d2⟩:=HX6.out.cells
  rw[HS.out.cuts]
  generalize (C.cutsP i (C.Fst fs i) [⟨wd,1,0⟩] l).1=z1
  go_wp2_with fail
  refine(refHours_any 10 A n c rs (some ⟨g,0,none⟩) n n hs _ HX6.out.sl HH6.out).mono ?_
  rintro e w8⟨rfl,hb⟩
  have HK7:=Lib.hid (HK6.out.later hb)
  have HX7:=Lib.hid (HX6.out.later hb)
  have HN7:=Lib.hid (HN6.out.later hb)
  have HC7:=Lib.hid (HC6.out.later hb)
  have HH7:=Lib.hid (HH6.out.later hb)
  clear hb HK6 HX6 HN6 HC6 HH6 c0 c1 c2 d0 d1 d2
  obtain⟨c0,c1,c2⟩:=HK7.out.cells
  obtain⟨d0,d1,d2⟩:=HX7.out.cells
  rw[Hhe.out]
  generalize hoursV 10 rs hs=z2
  have hmk:∀W:World,(Instr.makeSlice 43 (.int .i64 (i:Int)) (.int .i64 (i:Int))).run Tryz.prog W=.ok (.slice (some ⟨W.heap.size,0,none⟩) i i) (W.alloc (.cells (numArr i (λ_=>0)) 2)):=λW=>make_longs i (by have:=HLn.out;omega) W
  have HP:=Lib.hid (show PX w8 (w8.alloc (.cells (numArr i (λ_=>0)) 2)) i (prAt hs 0)from⟨balloc (brefl _) _,by rw[prAt_zero];exact Blk.new _ _ _⟩)
  go_wp2_with fail
  clear c0 c1 c2 d0 d1 d2 hmk
  refine loop_n (λq a W=>a.defers=[]/\∃(k:Nat),k+q=n/\PX w8 W i (prAt hs k)/\Fits (none::none::some (.pointer (some ⟨w.heap.size,0,none⟩))::none::none::some (.int .i64 wd)::some (.slice (some ⟨K,0,none⟩) 1 1)::some (.pointer (some ⟨P,0,none⟩))::none::some (.int .i64 v)::none::some (.slice (some ⟨G,0,none⟩) l.length l.length)::none::some (.int .i64 v)::none::some (.slice (some ⟨g,0,none⟩) n n)::none::some (.slice (some ⟨w8.heap.size,0,none⟩) i i)::some (.int .i64 (k:Nat))::none::none::none::none::none::none::none::none::none::none::none::none::none::none::none::none::none::none::none::none::none::none::none::none::none::none::none::none::none::none::none::none::none::none::none::none::none::none::none::none::none::none::none::none::none::none::none::none::none::none::none::none::none::none::none::none::none::none::none::none::none::none::none::none::none::none::none::none::none::none::none::none::none::none::none::none::none::none::none::none::none::none::none::none::none::none::none::none::none::none::none::none::none::none::none::none::none::none::none::none::none::none::none::none::none::none::none::none::none::none::none::none::none::none::none::none::none::none::none::none::none::none::none::none::none::none::none::none::none::none::none::none::none::none::none::none::none::none::none::none::none::none::none::none::none::none::none::none::none::none::none::none::none::none::none::none::none::none::none::none::none::none::none::none::none::none::none::none::none::none::none::none::none::none::none::none::none::none::none::none::none::none::none::none::none::none::none::[]) a.tmps.toList) n ?_ ?_
  ·refine⟨rfl,0,by omega,HP.out,?_⟩
   repeat (first|exact fits_nil|refine fits_none ?_|refine fits_some ?_)
  clear HP
  intro q a W hI K2 hK
  obtain⟨hds,k,hkq,hP,hfit⟩:=hI
  obtain⟨f',hf'⟩:=fits_act hfit
  rw[hds]at hf'
  subst hf'
  clear hfit hds
  simp only[fillP,Nat.reduceAdd]
  by_cases hlt:k<n
  ·obtain⟨g',o',x,hA,hgl,hx,y0⟩:=(HH7.out.later hP.bel).ltI hlt
   cases hA
   rw[Nat.zero_add]at y0
   have hxr:=Hin.out x (List.mem_of_getElem? hx)
   obtain⟨xn,rfl⟩:∃xn:Nat,x=xn:=⟨x.toNat,by omega⟩
   have i1:(k:Int)<(n:Int):=by omega
   have i2:(0:Int)<=(k:Int):=by omega
   have i3:IntKind.i64.wrap ((k:Int)+1)=(k:Int)+1:=by rw[IntKind.wrap_i64];omega
   have i4:(xn:Int)<(i:Int):=by omega
   have i5:(0:Int)<=(xn:Int):=by omega
   have y1:W.cell? ⟨w8.heap.size,xn,none⟩=some (.int .i64 (prAt hs k xn)):=by rw[hP.b0.cell,numArr_get (by omega)]
   have y2:=hP.b0.frozen xn
   have y3:=hP.b0.lt
   have HP:=Lib.hid (hP.set xn 1)
   have Hsu:=Lib.hid (prAt_succ hx)
   clear hP hxr hx
   go_wp2
   refine hK _ _ (q-1) (by omega) ⟨rfl,k+1,by omega,by rw[<-Hsu.out];exact HP.out,?_⟩
   repeat (first|exact fits_nil|refine fits_none ?_|refine fits_some ?_)
  ·obtain rfl:k=n:=by omega
   have HQ:=Lib.hid (hP.sl (by have:=HLn.out;omega))
   have Hpp:=Lib.hid (Hpr.out ((List.range i).map (prAt hs k)) (by simp) (λj hj=>by
    rw[List.getElem?_map,List.getElem?_range hj]
    unfold prAt
    rw[<-Hhl.out,List.take_length]
    rfl))
   have Hbl:=Lib.hid hP.bel
   clear hP hK hlt hkq Hpr
   obtain⟨PB,hPB⟩:∃PB,w8.heap.size=PB:=⟨_,rfl⟩
   obtain⟨ps,hps⟩:∃ps,(List.range i).map (prAt hs k)=ps:=⟨_,rfl⟩
   rw[hPB]at HQ ⊢
   rw[hps]at HQ Hpp
   clear hps hPB
   obtain⟨c0,c1,c2⟩:=HK7.out.cells
   obtain⟨d0,d1,d2⟩:=HX7.out.cells
   have HK8:=Lib.hid (HK7.out.later (Hbl.out))
   have HX8:=Lib.hid (HX7.out.later (Hbl.out))
   have HN8:=Lib.hid (HN7.out.later (Hbl.out))
   have HC8:=Lib.hid (HC7.out.later (Hbl.out))
   have HH8:=Lib.hid (HH7.out.later (Hbl.out))
   clear HK7 HX7 HN7 HC7 HH7 c0 c1 c2 d0 d1 d2
   obtain⟨c0,c1,c2⟩:=HK8.out.cells
   obtain⟨d0,d1,d2⟩:=HX8.out.cells
   clear Hbl
   have HQ8:=HQ
   have HW:=Lib.hid (show WX W W (.slice none 0 0) (winOf wd (l.take 0))from⟨brefl _,World.ownsRow_nil _ _ _ _⟩)
   go_wp2_with fail
   clear c0 c1 c2 d0 d1 d2
   refine loop_n (λq a W'=>a.defers=[]/\∃(j:Nat)(u:Value),j+q=l.length/\WX W W' u (winOf wd (l.take j))/\Fits (none::none::some (.pointer (some ⟨w.heap.size,0,none⟩))::none::none::some (.int .i64 wd)::some (.slice (some ⟨K,0,none⟩) 1 1)::some (.pointer (some ⟨P,0,none⟩))::none::some (.int .i64 v)::none::some (.slice (some ⟨G,0,none⟩) l.length l.length)::none::some (.int .i64 v)::none::none::none::some (.slice (some ⟨PB,0,none⟩) i i)::none::some (u)::some (.int .i64 (j:Nat))::none::none::none::none::none::none::none::none::none::none::none::none::none::none::none::none::none::none::none::none::none::none::none::none::none::none::none::none::none::none::none::none::none::none::none::none::none::none::none::none::none::none::none::none::none::none::none::none::none::none::none::none::none::none::none::none::none::none::none::none::none::none::none::none::none::none::none::none::none::none::none::none::none::none::none::none::none::none::none::none::none::none::none::none::none::none::none::none::none::none::none::none::none::none::none::none::none::none::none::none::none::none::none::none::none::none::none::none::none::none::none::none::none::none::none::none::none::none::none::none::none::none::none::none::none::none::none::none::none::none::none::none::none::none::none::none::none::none::none::none::none::none::none::none::none::none::none::none::none::none::none::none::none::none::none::none::none::none::none::none::none::none::none::none::none::none::none::none::none::none::none::none::none::none::none::none::none::none::none::none::none::none::none::none::none::[]) a.tmps.toList) l.length ?_ ?_
   ·refine⟨rfl,0,_,by omega,HW.out,?_⟩
    repeat (first|exact fits_nil|refine fits_none ?_|refine fits_some ?_)
   clear HW
   intro q a V hI K3 hK
   obtain⟨hds,j,u,hjq,hW,hfit⟩:=hI
   obtain⟨f',hf'⟩:=fits_act hfit
   rw[hds]at hf'
   subst hf'
   clear hfit hds
   simp only[fillP,Nat.reduceAdd]
   by_cases hlt:j<l.length
   ·obtain⟨g',o',x,hA,hgl,hx,y0,y1⟩:=(HC8.out.later hW.bel).ltS hlt
    cases hA
    obtain⟨g',o',x',hA,hgl2,_⟩:=(HC8.out).ltS hlt
    cases hA
    have hxr:=HS.out.sh x (List.mem_of_getElem? hx)
    have hadd:=win_take (wd:=wd) hx
    obtain⟨ls,hls⟩:∃ls,winOf wd (l.take j)=ls:=⟨_,rfl⟩
    have hll:ls.length<=10:=by rw[<-hls];unfold winOf;simp;omega
    rw[hls]at hW hadd
    have Hadd:=Lib.hid hadd
    have HM:=Lib.hid hW
    obtain⟨f,hf⟩:∃f,x.f=f:=⟨_,rfl⟩
    obtain⟨y,hy⟩:∃y,f+(wd:Int)-1=y:=⟨_,rfl⟩
    rw[hf]at hadd hxr y0
    rw[Nat.zero_add]at y0
    rw[hy]at hadd
    have Hadd:=Lib.hid hadd
    have i1:(j:Int)<(l.length:Int):=by omega
    have i2:(0:Int)<=(j:Int):=by omega
    have i3:IntKind.i64.wrap ((j:Int)+1)=(j:Int)+1:=by rw[IntKind.wrap_i64];omega
    have i4:IntKind.i64.wrap (f+(wd:Int))=f+(wd:Int):=by rw[IntKind.wrap_i64];have:=Hwd.out;omega
    have i5:IntKind.i64.wrap (f+(wd:Int)-1)=y:=by rw[IntKind.wrap_i64];have:=Hwd.out;omega
    obtain⟨i0,hi0,hz0,hz1,hz2⟩:=info_parts info_rg
    have hvc:u.ownBlock≠some G:=λe=>by have:=own_base HM.out.own _ e;omega
    have hsz:=hW.bel.size
    clear hW hadd hx hxr hls hf hy y1
    go_wp2_with fail
    go_region_held3 (λw'=>w'.cell? ⟨G,j*2,none⟩=some (.int .i64 f))
     (first
       |go_keep
       |(rw[hgrow.cell_far _ (by simp;omega) (Ne.symm hvc)];assumption))
     ((refine step_append_lies _ (by rfl) _ _ _ (by rfl) W.heap.size 36 i0 _ 2 16 und_rgs hi0 hz0 hz1 hz2 rfl (by omega) u ls.length _ (by rfl) ((own_later HM.out.own (balloc (brefl V) _)).drew)
        ⟨V.heap.size,0,none⟩ 1 1 [.int .i64 f,.int .i64 y] (by rfl) (by rfl) (World.news_of_block (cs:=#[.int .i64 f,.int .i64 y]) (t:=36) (fr:=(0,0)) (heap_alloc_new V _)) (by simp[Value.oneCell'])
        (by omega) (by simp only[maxLen];omega) (by omega) (by simp;omega) (V.heap.size+1) (by simp) ?_;intro gg cap w4 hown1 hgrow hat hlt'))
    have hM3:=(HM.out.later (bdrew (balloc (brefl V) (.cells #[.int .i64 f,.int .i64 y] 36)) 1)).grown (x:=⟨f,y⟩) hgrow hown1
    rw[<-Hadd.out]at hM3
    have HM3:=Lib.hid hM3
    clear hown1 hgrow hat hM3 hlt'
    go_wp2
    refine hK _ _ (q-1) (by omega) ⟨rfl,j+1,_,by omega,HM3.out,?_⟩
    repeat (first|exact fits_nil|refine fits_none ?_|refine fits_some ?_)
   ·obtain rfl:j=l.length:=by omega
    rw[List.take_length]at hW
    obtain⟨AW,cW,rfl,hsl⟩:=own_slG (k:=2) (enc:=encR) (λ_=>rfl) hW.own rfl
    have Hbl:=Lib.hid hW.bel
    have hpv:=HS.out.pv
    have hpe:=HS.out.pe
    obtain⟨ws,hws⟩:∃ws,winOf wd l=ws:=⟨_,rfl⟩
    obtain⟨m,hm⟩:∃m,ws.length=m:=⟨_,rfl⟩
    rw[hws]at hsl hpv hpe ⊢
    rw[hm]at hsl ⊢
    have Hpv:=Lib.hid hpv
    have Hpe:=Lib.hid hpe
    clear hK hjq hlt hW hpv hpe hws hm
    have Hprice:=Lib.hid (λW h1 h2 h3=>C.CheckPrices_ok i FA fn fc fs (some ⟨K,0,none⟩) 1 [⟨wd,1,0⟩] (some ⟨PB,0,none⟩) i i ps W h1 h2 h3 Hrk.out)
    rw[Hpp.out]at Hprice
    dsimp only at Hprice
    obtain⟨c0,c1,c2⟩:=HK8.out.cells
    obtain⟨d0,d1,d2⟩:=HX8.out.cells
    have HK9:=Lib.hid (HK8.out.later (Hbl.out))
    have HX9:=Lib.hid (HX8.out.later (Hbl.out))
    have HN9:=Lib.hid (HN8.out.later (Hbl.out))
    have HC9:=Lib.hid (HC8.out.later (Hbl.out))
    have HH9:=Lib.hid (HH8.out.later (Hbl.out))
    have HQ9:=Lib.hid (HQ8.out.later (Hbl.out))
    clear HK8 HX8 HN8 HC8 HH8 HQ8 c0 c1 c2 d0 d1 d2
    obtain⟨c0,c1,c2⟩:=HK9.out.cells
    obtain⟨d0,d1,d2⟩:=HX9.out.cells
    have HV9:=Lib.hid hsl
    clear hsl Hbl
    go_wp2_with fail
    refine(Hprice.out _ HK9.out.sl HN9.out HQ9.out).mono ?_
    rintro e w9⟨rfl,hb⟩
    have HK10:=Lib.hid (HK9.out.later hb)
    have HX10:=Lib.hid (HX9.out.later hb)
    have HN10:=Lib.hid (HN9.out.later hb)
    have HC10:=Lib.hid (HC9.out.later hb)
    have HH10:=Lib.hid (HH9.out.later hb)
    have HQ10:=Lib.hid (HQ9.out.later hb)
    have HV10:=Lib.hid (HV9.out.later hb)
    clear hb HK9 HX9 HN9 HC9 HH9 HQ9 HV9 c0 c1 c2 d0 d1 d2
    obtain⟨c0,c1,c2⟩:=HK10.out.cells
    obtain⟨d0,d1,d2⟩:=HX10.out.cells
    go_wp2_with fail
    refine(checkProof_any 10 A k c rs AW m cW ws _ HX10.out.sl HV10.out).mono ?_
    rintro e w10⟨rfl,hb⟩
    have HK11:=Lib.hid (HK10.out.later hb)
    have HX11:=Lib.hid (HX10.out.later hb)
    have HN11:=Lib.hid (HN10.out.later hb)
    have HC11:=Lib.hid (HC10.out.later hb)
    have HH11:=Lib.hid (HH10.out.later hb)
    have HQ11:=Lib.hid (HQ10.out.later hb)
    have HV11:=Lib.hid (HV10.out.later hb)
    clear hb HK10 HX10 HN10 HC10 HH10 HQ10 HV10 c0 c1 c2 d0 d1 d2
    obtain⟨c0,c1,c2⟩:=HK11.out.cells
    obtain⟨d0,d1,d2⟩:=HX11.out.cells
    rw[Hpv.out,Hpe.out]
    go_wp2_with fail
    refine(Ev.works03 _).mono ?_
    rintro e we⟨rfl,hbe⟩
    have HBE:=Lib.hid (Below.later HK11.out.bel hbe)
    clear hbe
    go_wp2
    go_ret
    exact⟨rfl,HBE.out⟩
end Go.Proofs.YtednconodjeniaaGreat
