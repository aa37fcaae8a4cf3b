/- The document's Loads, CheckHours, Need. · The document's CheckHours and CheckProof. -/
import Derived.Test.YtifehdoghfnhoaaGreatDoorZSApiG
namespace Go.Proofs.YtifehdoghfnhoaaGreatDoor
open Go.RowKit Go.Shelf
set_option maxRecDepth 100000 in
set_option maxHeartbeats 4000000 in
theorem refLoads_any(L:Int)(A:Option Addr)(n c:Nat)(B:Option Addr)(m k:Nat)(hs:List Int)(w:World)(hh:Sl 1 encI w w.heap.size B m k hs)(hm:m<=100)(hL:1<=L/\L<=10):
 Calls Tryz.prog 31 #[.agg #[.int .i64 L,.slice A n c],.slice B m k] w λe w'=>e=.returned (.int .i64 (loadsP L hs))/\Below w.heap.size w w':=by
 obtain rfl:=hh.len
 have Hh:=Lib.hid hh
 have HY:=Lib.hid (show YB w (w.alloc (.cells #[.int .i64 L,.slice A n c] 30)) L A n c from⟨balloc (brefl w) _,Blk.new w _ _⟩)
 have hbd:∀l:List Int,l.length<=100->∀t,0<=cntP l t/\cntP l t<=100:=λl hl t=>by
  have:=List.countP_le_length (p:=λh=>decide (h=(t:Int))) (l:=l)
  unfold cntP;omega
 have Hbd:=Lib.hid hbd
 have Hlo:=Lib.hid (show∀t:Nat,t<=101->0<=loadsTo L hs t/\loadsTo L hs t<=t*2000 fromλt=>by
  induction t with
  |zero=>intro _;simp[loadsTo]
  |succ t ih=>
   intro ht
   have h1:=ih (by omega)
   obtain⟨_,_,_,_,_,u0,u1⟩:=upI_facts hL (x:=cntP hs t) (by have:=hbd hs hm t;omega)
   simp only[loadsTo]
   omega)
 have HL:=Lib.hid hL
 clear hh hbd hL
 go_enter Tryz.func31,Tryz.ntmps31
 go_wp2_with fail
 refine lpn (λm a W=>a.defers=[]/\∃t:Nat,t+m=101/\YB w W L A n c/\Fits (none::some (.slice B hs.length k)::some (.pointer (some ⟨w.heap.size,0,none⟩))::none::none::some (.int .i64 (loadsTo L hs t))::some (.int .i64 (t:Nat))::none::none::none::none::none::none::none::none::none::none::none::none::none::none::none::none::none::none::none::none::none::none::none::none::none::none::none::[]) a.tmps.toList) 101 ?_ ?_
 ·refine⟨rfl,0,by omega,HY.out,?_⟩
  repeat (first|exact ftL|refine ftN ?_|refine ftS ?_)
 clear HY
 intro q a W hI K hK
 obtain⟨hds,t,htq,hY,hfit⟩:=hI
 obtain⟨f,hf⟩:=ftA hfit
 rw[hds]at hf
 subst hf
 clear hfit hds
 simp only[fillP,Nat.reduceAdd]
 have HY:=Lib.hid hY
 by_cases hlt:t<101
 ·have i1:(t:Int)<=100:=by omega
  have i3:IntKind.i64.wrap ((t:Int)+1)=(t:Int)+1:=by rw[IntKind.wrap_i64];omega
  obtain⟨a0,a1⟩:=Hlo.out t (by omega)
  have HS:=Lib.hid (show loadsTo L hs t+upI (cntP hs t) L=loadsTo L hs (t+1)from rfl)
  obtain⟨s,hs1⟩:∃s,loadsTo L hs t=s:=⟨_,rfl⟩
  rw[hs1]at a0 a1 HS ⊢
  clear hY hs1
  go_wp2_with fail
  refine lpn (λm a W=>a.defers=[]/\∃i:Nat,i+m=hs.length/\YB w W L A n c/\Fits (none::some (.slice B hs.length k)::some (.pointer (some ⟨w.heap.size,0,none⟩))::none::none::some (.int .i64 s)::some (.int .i64 (t:Nat))::some (.int .i64 (cntP (hs.take i) t))::some (.int .i64 (i:Nat))::none::none::none::none::none::none::none::none::none::none::none::none::none::none::none::none::none::none::none::none::none::none::none::none::none::[]) a.tmps.toList) hs.length ?_ ?_
  ·refine⟨rfl,0,by omega,HY.out,?_⟩
   rw[show cntP (hs.take 0) t=0 by simp[cntP]]
   repeat (first|exact ftL|refine ftN ?_|refine ftS ?_)
  clear HY
  clear W
  intro r a W hI K2 hK2
  obtain⟨hds,i,hir,hY,hfit⟩:=hI
  obtain⟨f2,hf⟩:=ftA hfit
  rw[hds]at hf
  subst hf
  clear hfit hds
  simp only[fillP,Nat.reduceAdd]
  have HY:=Lib.hid hY
  by_cases hlt2:i<hs.length
  ·obtain⟨rb,ro,x,rfl,hrb,hx,g0⟩:=(Hh.out.later hY.bel).ltI hlt2
   have j1:(i:Int)<(hs.length:Int):=by omega
   have j2:(0:Int)<=(i:Int):=by omega
   have j3:IntKind.i64.wrap ((i:Int)+1)=(i:Int)+1:=by rw[IntKind.wrap_i64];omega
   obtain⟨b0,b1⟩:=Hbd.out (hs.take i) (by simp;omega) t
   have hst:=count_take (p:=λh=>decide (h=(t:Int))) hx
   have Hst:=Lib.hid (show cntP (hs.take (i+1)) t=cntP (hs.take i) t+if x=(t:Int)then 1 else 0 by
    unfold cntP;rw[hst];by_cases e:x=(t:Int)<;>simp[e])
   obtain⟨v,hv⟩:∃v,cntP (hs.take i) t=v:=⟨_,rfl⟩
   rw[hv]at b0 b1 Hst ⊢
   have j4:IntKind.i64.wrap (v+1)=v+1:=by rw[IntKind.wrap_i64];omega
   clear hY hx hst hv
   by_cases he:x=(t:Int)
   ·have z1:(x==(t:Int))=true:=by simpa using he
    rw[if_pos he]at Hst
    have HE:=Lib.hid he
    clear he
    go_wp2
    refine hK2 _ _ (r-1) (by omega) ⟨rfl,i+1,by omega,HY.out,?_⟩
    rw[Hst.out]
    repeat (first|exact ftL|refine ftN ?_|refine ftS ?_)
   ·have z1:(x==(t:Int))=false:=by simpa using he
    rw[if_neg he]at Hst
    clear he
    go_wp2
    refine hK2 _ _ (r-1) (by omega) ⟨rfl,i+1,by omega,HY.out,?_⟩
    rw[Hst.out,Int.add_zero]
    repeat (first|exact ftL|refine ftN ?_|refine ftS ?_)
  ·obtain rfl:i=hs.length:=by omega
   rw[List.take_length]
   obtain⟨b0,b1⟩:=Hbd.out hs hm t
   have c0:=hY.b0.cell 0
   have c1:=hY.b0.cell 1
   have c2:=hY.b0.lt
   obtain⟨_,_,_,_,_,u0,u1⟩:=upI_facts HL.out (x:=cntP hs t) (by omega)
   have hup:=Lib.hid (refUp_any L (cntP hs t) W HL.out (by omega))
   obtain⟨v,hv⟩:∃v,cntP hs t=v:=⟨_,rfl⟩
   rw[hv]at u0 u1 hup HS b0 b1 ⊢
   obtain⟨u,hu⟩:∃u,upI v L=u:=⟨_,rfl⟩
   rw[hu]at u0 u1 hup HS
   have hwr:IntKind.i64.wrap (s+u)=s+u:=by rw[IntKind.wrap_i64];omega
   clear hY hv hu hK2
   go_wp2_with fail
   refine hup.out.mono ?_
   rintro e w2⟨rfl,hb2⟩
   have HY2:=Lib.hid (HY.out.later hb2)
   clear hb2
   go_wp2
   refine hK _ _ (q-1) (by omega) ⟨rfl,t+1,by omega,HY2.out,?_⟩
   rw[<-HS.out]
   repeat (first|exact ftL|refine ftN ?_|refine ftS ?_)
 ·obtain rfl:t=101:=by omega
  clear hK hY
  go_wp2
  go_ret
  exact⟨ret_int rfl,HY.out.bel⟩
end Go.Proofs.YtifehdoghfnhoaaGreatDoor
namespace Go.Proofs.YtifehdoghfnhoaaGreatDoor
open Go.RowKit Go.Shelf
theorem wrong_iff(h:Int)(x:Rg):wrongB (h,x)=(decide (h<x.lo)||decide (x.hi<h)):=by
 unfold wrongB
 rw[Bool.eq_iff_iff]
 simp only[Bool.not_eq_true',inR_no,Bool.or_eq_true,decide_eq_true_eq]
set_option maxRecDepth 100000 in
set_option maxHeartbeats 4000000 in
theorem refHours_any(L:Int)(A:Option Addr)(n c:Nat)(rs:List Rg)(B:Option Addr)(m k:Nat)(hh:List Int)(w:World)(hs:Sl 2 encR w w.heap.size A n c rs)(ht:Sl 1 encI w w.heap.size B m k hh):
 Calls Tryz.prog 11 #[.agg #[.int .i64 L,.slice A n c],.slice B m k] w λe w'=>e=.returned (.tuple #[.int .i64 (hoursV L rs hh),.int .i64 (hoursE L rs hh)])/\Below w.heap.size w w':=by
 obtain rfl:=hs.len
 obtain rfl:=ht.len
 have HY:=Lib.hid (show YB w (w.alloc (.cells #[.int .i64 L,.slice A rs.length c] 30)) L A rs.length c from⟨balloc (brefl w) _,Blk.new w _ _⟩)
 have Hyc:=Lib.hid (λW hb=>refYard_any L A rs.length c rs W (hs.later (w':=W) hb))
 by_cases he:yardE L rs=0
 ·obtain⟨hL,hr⟩:=yard_ok he
  have HE0:=Lib.hid (show hoursE L rs hh=if hh.length=rs.length then(if(hh.zip rs).any wrongB then 19 else 0)else 15 by unfold hoursE;rw[if_pos he])
  rw[he]at Hyc
  have Hs:=Lib.hid hs
  have Ht:=Lib.hid ht
  have Hr:=Lib.hid hr
  clear hs ht he hr
  go_enter Tryz.func11,Tryz.ntmps11
  go_wp2_with fail
  refine(Hyc.out _ HY.out.bel).mono ?_
  rintro e w1⟨rfl,hb1⟩
  have hY1:=HY.out.later hb1
  have c0:=hY1.b0.cell 0
  have c1:=hY1.b0.cell 1
  have c2:=hY1.b0.lt
  have HY1:=Lib.hid hY1
  clear hb1 hY1
  by_cases hlen:hh.length=rs.length
  ·have hl1:((hh.length:Int) != (rs.length:Int))=false:=by simp[hlen]
   have HE1:=Lib.hid (show hoursE L rs hh=if(hh.zip rs).any wrongB then 19 else 0 by rw[HE0.out,if_pos hlen])
   have hn10:hh.length<=10:=by rw[hlen];exact Hr.out.1
   have Hlen:=Lib.hid hlen
   clear hlen
   go_wp2_with fail
   clear c0 c1 c2 hl1
   refine lpn (λq b W=>b.defers=[]/\∃i:Nat,i+q=hh.length/\Hid (∀j p,j<i->(hh.zip rs)[j]? =some p->wrongB p=false)/\YB w W L A rs.length c/\Fits (none::some (.slice B hh.length k)::some (.pointer (some ⟨w.heap.size,0,none⟩))::none::none::none::some (.int .i64 (i:Nat))::none::none::none::none::none::none::none::none::none::none::none::none::none::none::none::none::none::none::none::none::none::none::none::none::none::none::none::none::none::none::none::none::none::none::none::none::none::none::none::none::none::none::none::none::[]) b.tmps.toList) hh.length ?_ ?_
   ·refine⟨rfl,0,by omega,Lib.hid (λj p hj=>by omega),HY1.out,?_⟩
    repeat (first|exact ftL|refine ftN ?_|refine ftS ?_)
   clear HY1
   intro q b W hI K hK
   obtain⟨hds,i,hiq,hno,hY,hfit⟩:=hI
   obtain⟨f,hf⟩:=ftA hfit
   rw[hds]at hf
   subst hf
   clear hfit hds
   simp only[fillP,Nat.reduceAdd]
   have c0:=hY.b0.cell 0
   have c1:=hY.b0.cell 1
   have c2:=hY.b0.lt
   have HY:=Lib.hid hY
   by_cases hlt:i<hh.length
   ·obtain⟨tb,tof,t,rfl,htb,ht',t0⟩:=(Ht.out.later hY.bel).ltI hlt
    have hlr:i<rs.length:=by rw[<-Hlen.out];exact hlt
    obtain⟨rb,ro,x,rfl,hrb,hx,g0,g1⟩:=(Hs.out.later hY.bel).ltR hlr
    have hz:(hh.zip rs)[i]? =some (t,x):=by rw[List.getElem?_zip_eq_some];exact⟨ht',hx⟩
    have i1:(i:Int)<(hh.length:Int):=by omega
    have i2:(0:Int)<=(i:Int):=by omega
    have i3:IntKind.i64.wrap ((i:Int)+1)=(i:Int)+1:=by rw[IntKind.wrap_i64];omega
    have i4:(i:Int)<(rs.length:Int):=by omega
    obtain⟨qa,hqa⟩:∃q,decide (t<x.lo)=q:=⟨_,rfl⟩
    obtain⟨qb,hqb⟩:∃q,decide (x.hi<t)=q:=⟨_,rfl⟩
    have hwb:wrongB (t,x)=(qa||qb):=by rw[wrong_iff,hqa,hqb]
    have hN:(qa||qb)=false->∀j p,j<i+1->(hh.zip rs)[j]? =some p->wrongB p=false:=λh=>no_succ hno.out hz (by rw[hwb];exact h)
    have hX:(qa||qb)=true->hoursE L rs hh=19:=λh=>by rw[HE1.out,if_pos (List.any_eq_true.2 ⟨_,List.mem_of_getElem? hz,by rw[hwb];exact h⟩)]
    have HN:=Lib.hid hN
    have HX:=Lib.hid hX
    clear hY hno ht' hx hz hN hX hwb
    cases qa
    all_goals
     cases qb
     all_goals
      go_wp2_with fail
      refine dag 24 (by kernel_rfl) (by kernel_rfl) (.is ?_::.is ?_::.is ?_::.is ?_::.is ?_::.is ?_::.is ?_::.is ?_::.is ?_::.is ?_::.is ?_::.is ?_::.is ?_::.is ?_::.is ?_::.is ?_::.is ?_::.is ?_::.is ?_::.is ?_::.is ?_::.is ?_::.is ?_::.is ?_::[]) rfl ?st1 ?ob1
      case st1=>simp[Spec.ok]
      case ob1=>
       intro env W' hG
       obtain⟨hc,hf⟩:=bcell hG
       repeat (refine obI ?_ ?_;unfold dsA;go_simp;(try go_bits);(first|(refine⟨brefl _,?_⟩;rfl)|rfl);intro K hK;go_simp;refine hK _ ?_;clear hK K)
       refine obN (λ_=>?_)
       have HY2:=Lib.hid (HY.out.later hG)
       clear hc hf hG
       first
        |(have HN2:=Lib.hid (HN.out rfl)
          clear HN HX
          go_wp2
          refine hK _ _ (q-1) (by omega) ⟨rfl,i+1,by omega,Lib.hid HN2.out,HY2.out,?_⟩
          repeat (first|exact ftL|refine ftN ?_|refine ftS ?_)
          done)
        |(have HX2:=Lib.hid (HX.out rfl)
          clear HN HX hK
          go_wp2
          go_ret2
          exact⟨by rw[show hoursV L rs hh=0 by unfold hoursV;rw[HX2.out];rfl,HX2.out];rfl,HY2.out.bel⟩)
   ·obtain rfl:i=hh.length:=by omega
    have HE2:=Lib.hid (show hoursE L rs hh=0 by
     rw[HE1.out,if_neg]
     intro ha
     obtain⟨p,hp,hb⟩:=List.any_eq_true.1 ha
     obtain⟨j,hj⟩:=List.getElem?_of_mem hp
     have hjl:=(List.getElem?_eq_some_iff.1 hj).1
     rw[hno.out j p (by simp at hjl;omega) hj]at hb
     cases hb)
    have hld:=refLoads_any L A rs.length c B hh.length k hh W (Ht.out.later hY.bel) (by omega) hL
    have Hld:=Lib.hid hld
    clear hK hno hY hld
    go_wp2_with fail
    refine Hld.out.mono ?_
    rintro e w2⟨rfl,hb2⟩
    have HY2:=Lib.hid (HY.out.later hb2)
    clear hb2
    go_wp2
    go_ret2
    exact⟨by rw[show hoursV L rs hh=loadsP L hh by unfold hoursV;rw[HE2.out,if_pos rfl],HE2.out];rfl,HY2.out.bel⟩
  ·have hl1:((hh.length:Int) != (rs.length:Int))=true:=by simp;omega
   have HE1:=Lib.hid (show hoursE L rs hh=15 by rw[HE0.out,if_neg hlen])
   clear hlen
   go_wp2
   go_ret2
   exact⟨by rw[show hoursV L rs hh=0 by unfold hoursV;rw[HE1.out];rfl,HE1.out];rfl,HY1.out.bel⟩
 ·have h1:hoursE L rs hh=yardE L rs:=by unfold hoursE;rw[if_neg he]
  unfold hoursV
  rw[h1,if_neg he]
  clear h1
  obtain⟨q,hq⟩:∃q,yardE L rs=q:=⟨_,rfl⟩
  rw[hq]at Hyc he ⊢
  have d1:(q != 0)=true:=by simpa using he
  clear hs ht he hq
  go_enter Tryz.func11,Tryz.ntmps11
  go_wp2_with fail
  refine(Hyc.out _ HY.out.bel).mono ?_
  rintro e w1⟨rfl,hb1⟩
  have hN1:=HY.out.later hb1
  have c0:=hN1.b0.cell 0
  have c1:=hN1.b0.cell 1
  have c2:=hN1.b0.lt
  have HN1:=Lib.hid hN1
  clear hb1 hN1
  go_wp2_with fail
  refine(Hyc.out _ HN1.out.bel).mono ?_
  rintro e w2⟨rfl,hb2⟩
  have HN2:=Lib.hid (HN1.out.later hb2)
  clear hb2
  go_wp2
  go_ret2
  exact⟨rfl,HN2.out.bel⟩
set_option maxRecDepth 100000 in
set_option maxHeartbeats 4000000 in
theorem refProof_any(L:Int)(A:Option Addr)(n c:Nat)(rs:List Rg)(B:Option Addr)(m k:Nat)(ws:List Rg)(w:World)(hs:Sl 2 encR w w.heap.size A n c rs)(ht:Sl 2 encR w w.heap.size B m k ws):
 Calls Tryz.prog 169 #[.agg #[.int .i64 L,.slice A n c],.slice B m k] w λe w'=>e=.returned (.tuple #[.int .i64 (proofV L rs ws),.int .i64 (proofE L rs ws)])/\Below w.heap.size w w':=by
 obtain rfl:=hs.len
 obtain rfl:=ht.len
 have HY:=Lib.hid (show YB w (w.alloc (.cells #[.int .i64 L,.slice A rs.length c] 30)) L A rs.length c from⟨balloc (brefl w) _,Blk.new w _ _⟩)
 have Hyc:=Lib.hid (λW hb=>refYard_any L A rs.length c rs W (hs.later (w':=W) hb))
 by_cases he:yardE L rs=0
 ·obtain⟨hL,hr⟩:=yard_ok he
  have HE0:=Lib.hid (show proofE L rs ws=if(10:Int)<ws.length then 6 else if ws.any badR then 3 else if sepB (-1) ws then 0 else 16 by unfold proofE;rw[if_pos he])
  rw[he]at Hyc
  have Hs:=Lib.hid hs
  have Ht:=Lib.hid ht
  have Hr:=Lib.hid hr
  clear hs ht he hr
  go_enter Tryz.func169,Tryz.ntmps169
  go_wp2_with fail
  refine(Hyc.out _ HY.out.bel).mono ?_
  rintro e w1⟨rfl,hb1⟩
  have HY1:=Lib.hid (HY.out.later hb1)
  clear hb1
  by_cases hlen:(10:Int)<(ws.length:Int)
  ·have d1:decide ((10:Int)<(ws.length:Int))=true:=by simpa using hlen
   have HE1:=Lib.hid (show proofE L rs ws=6 by rw[HE0.out,if_pos hlen])
   clear hlen
   go_wp2
   go_ret2
   exact⟨by rw[show proofV L rs ws=0 by unfold proofV;rw[HE1.out];rfl,HE1.out];rfl,HY1.out.bel⟩
  have d1:decide ((10:Int)<(ws.length:Int))=false:=by simpa using hlen
  have HE1:=Lib.hid (show proofE L rs ws=if ws.any badR then 3 else if sepB (-1) ws then 0 else 16 by rw[HE0.out,if_neg hlen])
  have hn10:ws.length<=10:=by omega
  clear hlen
  go_wp2_with fail
  clear d1
  refine lpn (λq b W=>b.defers=[]/\∃i:Nat,i+q=ws.length/\Hid (∀j x,j<i->ws[j]? =some x->badR x=false)/\YB w W L A rs.length c/\Fits (none::some (.slice B ws.length k)::some (.pointer (some ⟨w.heap.size,0,none⟩))::none::none::none::some (.int .i64 (i:Nat))::none::none::none::none::none::none::none::none::none::none::none::none::none::none::none::none::none::none::none::none::none::none::none::none::none::none::none::none::none::none::none::none::none::none::none::none::none::none::none::none::none::none::none::none::none::none::none::none::none::none::none::none::none::[]) b.tmps.toList) ws.length ?_ ?_
  ·refine⟨rfl,0,by omega,Lib.hid (λj x hj=>by omega),HY1.out,?_⟩
   repeat (first|exact ftL|refine ftN ?_|refine ftS ?_)
  clear HY1
  intro q b W hI K hK
  obtain⟨hds,i,hiq,hno,hY,hfit⟩:=hI
  obtain⟨f,hf⟩:=ftA hfit
  rw[hds]at hf
  subst hf
  clear hfit hds
  simp only[fillP,Nat.reduceAdd]
  have HY:=Lib.hid hY
  by_cases hlt:i<ws.length
  ·obtain⟨rb,ro,x,rfl,hrb,hx,g0,g1⟩:=(Ht.out.later hY.bel).ltR hlt
   have i1:(i:Int)<(ws.length:Int):=by omega
   have i2:(0:Int)<=(i:Int):=by omega
   have i3:IntKind.i64.wrap ((i:Int)+1)=(i:Int)+1:=by rw[IntKind.wrap_i64];omega
   have Hsucc:=Lib.hid (λh=>no_succ hno.out hx h)
   have Hbad:=Lib.hid (show badR x=true->proofE L rs ws=3 fromλh=>by rw[HE1.out,if_pos (List.any_eq_true.2 ⟨x,List.mem_of_getElem? hx,h⟩)])
   clear hY hno hx
   go_wp2_with fail
   refine(refWindow_any x _).mono ?_
   rintro e w2⟨rfl,hb2⟩
   have HY2:=Lib.hid (HY.out.later hb2)
   clear hb2
   cases hw:winB x with
   |true=>
    have HN:=Lib.hid (Hsucc.out (by unfold badR;rw[hw];rfl))
    clear hw
    go_wp2
    refine hK _ _ (q-1) (by omega) ⟨rfl,i+1,by omega,Lib.hid HN.out,HY2.out,?_⟩
    repeat (first|exact ftL|refine ftN ?_|refine ftS ?_)
   |false=>
    have HR:=Lib.hid (Hbad.out (by unfold badR;rw[hw];rfl))
    clear hw hK
    go_wp2
    go_ret2
    exact⟨by rw[show proofV L rs ws=0 by unfold proofV;rw[HR.out];rfl,HR.out];rfl,HY2.out.bel⟩
  ·obtain rfl:i=ws.length:=by omega
   have hgood:∀x∈ws,badR x=false:=λx hx=>by
    obtain⟨j,hj⟩:=List.getElem?_of_mem hx
    exact hno.out j x (List.getElem?_eq_some_iff.1 hj).1 hj
   have HE2:=Lib.hid (show proofE L rs ws=if sepB (-1) ws then 0 else 16 by
    rw[HE1.out,if_neg]
    intro ha
    obtain⟨x,hx,hb⟩:=List.any_eq_true.1 ha
    rw[hgood x hx]at hb
    cases hb)
   have Hgood:=Lib.hid hgood
   clear hK hno hY hgood
   go_wp2_with fail
   refine lpn (λq b W=>b.defers=[]/\∃(i:Nat)(s en:Int),i+q=ws.length/\Hid (s+((ws.drop i).map (needP L rs)).sum=(ws.map (needP L rs)).sum/\0<=s/\s<=1010*(i:Int))/\Hid (sepB en (ws.drop i)=sepB (-1) ws)/\Hid (∀x,(0<i->ws[i-1]? =some x->x.hi=en))/\Hid (i=0->en=-1)/\YB w W L A rs.length c/\Fits (none::some (.slice B ws.length k)::some (.pointer (some ⟨w.heap.size,0,none⟩))::none::none::none::none::some (.int .i64 s)::some (.int .i64 (i:Nat))::none::none::none::none::none::none::none::none::none::none::none::none::none::none::none::none::none::none::none::none::none::none::none::none::none::none::none::none::none::none::none::none::none::none::none::none::none::none::none::none::none::none::none::none::none::none::none::none::none::none::none::[]) b.tmps.toList) ws.length ?_ ?_
   ·refine⟨rfl,0,0,-1,by omega,Lib.hid ⟨by simp,by omega,by omega⟩,Lib.hid rfl,Lib.hid (λx h=>by omega),Lib.hid (λ_=>rfl),HY.out,?_⟩
    repeat (first|exact ftL|refine ftN ?_|refine ftS ?_)
   clear HY
   clear W
   intro q b W hI K hK
   obtain⟨hds,i,s,en,hiq,hsum,hsep,hlast,hfirst,hY,hfit⟩:=hI
   obtain⟨f,hf⟩:=ftA hfit
   rw[hds]at hf
   subst hf
   clear hfit hds
   simp only[fillP,Nat.reduceAdd]
   have c0:=hY.b0.cell 0
   have c1:=hY.b0.cell 1
   have c2:=hY.b0.lt
   have HY:=Lib.hid hY
   by_cases hlt:i<ws.length
   ·obtain⟨rb,ro,x,rfl,hrb,hx,g0,g1⟩:=(Ht.out.later hY.bel).ltR hlt
    have hdr:ws.drop i=x::ws.drop (i+1):=by
     obtain⟨h1,h2⟩:=List.getElem?_eq_some_iff.1 hx
     rw[List.drop_eq_getElem_cons h1,h2]
    have i1:(i:Int)<(ws.length:Int):=by omega
    have i2:(0:Int)<=(i:Int):=by omega
    have i3:IntKind.i64.wrap ((i:Int)+1)=(i:Int)+1:=by rw[IntKind.wrap_i64];omega
    obtain⟨n0,n1⟩:=need_le hL Hr.out x
    obtain⟨s0,s1,s2⟩:=hsum.out
    have hwr:IntKind.i64.wrap (s+needP L rs x)=s+needP L rs x:=by rw[IntKind.wrap_i64];omega
    have Hsum:=Lib.hid (show s+needP L rs x+((ws.drop (i+1)).map (needP L rs)).sum=(ws.map (needP L rs)).sum/\0<=s+needP L rs x/\s+needP L rs x<=1010*((i+1:Nat):Int)by
     rw[hdr,List.map_cons,List.sum_cons]at s0
     exact⟨by omega,by omega,by omega⟩)
    have hxw:=bad_win (Hgood.out x (List.mem_of_getElem? hx))
    have hs3:(decide (en<x.lo)&&sepB x.hi (ws.drop (i+1)))=sepB (-1) ws:=by rw[<-hsep.out,hdr];rfl
    have HS:=Lib.hid hs3
    have HL2:=Lib.hid (show∀y,(0<i+1->ws[i+1-1]? =some y->y.hi=x.hi)fromλy _ hy=>by
     rw[Nat.add_sub_cancel,hx]at hy;cases hy;rfl)
    have Hnd:=Lib.hid (λW'(hb:Below W.heap.size W W')=>refNeed_any L A rs.length c rs x W' (Hs.out.later (hY.later hb).bel) (by have:=Hr.out.1;omega) hL)
    obtain⟨nd,hndq⟩:∃nd,needP L rs x=nd:=⟨_,rfl⟩
    rw[hndq]at Hnd hwr Hsum
    cases i with
    |zero=>
     have hen:=hfirst.out rfl
     have HS2:=Lib.hid (show sepB x.hi (ws.drop (0+1))=sepB (-1) ws by
      rw[<-HS.out,show decide (en<x.lo)=true by simp;omega];rfl)
     clear hY hsum hsep hlast hfirst hx hdr hs3 hndq n0 n1 s0 s1 s2 HS hen hxw
     go_wp2_with fail
     refine dag 16 (by kernel_rfl) (by kernel_rfl) (.is ?_::.is ?_::.is ?_::.is ?_::.is ?_::.is ?_::.is ?_::.is ?_::.is ?_::.is ?_::.is ?_::.is ?_::.is ?_::.is ?_::.is ?_::.is ?_::[]) rfl ?st1 ?ob1
     case st1=>simp[Spec.ok]
     case ob1=>
      intro env W1 hG
      obtain⟨hc,hf⟩:=bcell hG
      repeat (refine obI ?_ ?_;unfold dsA;go_simp;(try go_bits);(first|(refine⟨brefl _,?_⟩;rfl)|rfl);intro K hK;go_simp;refine hK _ ?_;clear hK K)
      refine obN (λ_=>?_)
      have HY1:=Lib.hid (HY.out.later hG)
      have HG1:=Lib.hid hG
      clear hc hf hG
      have a0:=HY1.out.b0.cell 0
      have a1:=HY1.out.b0.cell 1
      have a2:=HY1.out.b0.lt
      have r0:=(HG1.out.cell (p:=⟨rb,ro+(0)*2,none⟩) hrb).trans g0
      have r1:=(HG1.out.cell (p:=⟨rb,ro+(0)*2+1,none⟩) hrb).trans g1
      rw[Nat.zero_mul,Nat.add_zero]at r0 r1
      have r2:rb<W1.heap.size:=Nat.lt_of_lt_of_le hrb HG1.out.size
      have Hnd1:=Lib.hid (λW'(hb:Below W1.heap.size W1 W')=>Hnd.out W' (Below.later HG1.out hb))
      clear c0 c1 c2 g0 g1
      go_wp2_with fail
      refine dag 9 (by kernel_rfl) (by kernel_rfl) (.is ?_::.is ?_::.is ?_::.is ?_::.is ?_::.is ?_::.is ?_::.is ?_::.is ?_::[]) rfl ?st4_1 ?ob4_1
      case st4_1=>simp[Spec.ok]
      case ob4_1=>
       intro env W2 hG
       obtain⟨hc,hf⟩:=bcell hG
       iterate 6 (refine obI ?_ ?_;unfold dsA;go_simp;(try go_bits);(first|(refine⟨brefl _,?_⟩;rfl)|rfl);intro K hK;go_simp;refine hK _ ?_;clear hK K)
       refine obI ?_ ?_
       ·unfold dsA
        go_simp
        refine(Hnd1.out W2 hG).mono ?_
        rintro e w3⟨rfl,hb3⟩
        refine⟨?_,hb3⟩
        rfl
       intro K' hK'
       go_simp
       refine hK' _ ?_
       clear hK' K'
       repeat (refine obI ?_ ?_;unfold dsA;go_simp;(try go_bits);(first|(refine⟨brefl _,?_⟩;rfl)|rfl);intro K hK;go_simp;refine hK _ ?_;clear hK K)
       refine obN (λ_=>?_)
       have HY4:=Lib.hid (HY1.out.later hG)
       clear hc hf hG
       go_wp2
       refine hK _ _ (q-1) (by omega) ⟨rfl,0+1,_,x.hi,by omega,Lib.hid Hsum.out,Lib.hid HS2.out,Lib.hid HL2.out,Lib.hid (λh=>by omega),HY4.out,?_⟩
       repeat (first|exact ftL|refine ftN ?_|refine ftS ?_)
    |succ i=>
     obtain⟨z,hz⟩:∃z,ws[i]? =some z:=⟨_,List.getElem?_eq_getElem (by omega)⟩
     have hzen:=hlast.out z (by omega) (by simpa using hz)
     obtain⟨rb',ro',z',hA',_,hz',_,g3⟩:=(Ht.out.later hY.bel).ltR (show i<ws.length by omega)
     simp only[Option.some.injEq,Addr.mk.injEq,and_true]at hA'
     obtain⟨rfl,rfl⟩:=hA'
     rw[hz]at hz'
     cases hz'
     rw[hzen]at g3
     have k4:IntKind.i64.wrap ((i:Int)+1-1)=(i:Int):=by rw[IntKind.wrap_i64];omega
     have k5:(i:Int)<(ws.length:Int):=by omega
     have k6:(0:Int)<=(i:Int):=by omega
     have k7:(0:Int)<(i:Int)+1:=by omega
     have k8:((i:Int)+1).toNat=i+1:=by omega
     have hdl:decide (x.lo<=en)=!decide (en<x.lo):=by
      rw[Bool.eq_iff_iff];simp
     obtain⟨ql,hql⟩:∃ql,decide (en<x.lo)=ql:=⟨_,rfl⟩
     rw[hql]at HS hdl
     clear hY hsum hsep hlast hfirst hx hdr hs3 hndq n0 n1 s0 s1 s2 hxw hz hzen hql
     cases ql with
     |false=>
      have HE3:=Lib.hid (show proofE L rs ws=16 by rw[HE2.out,<-HS.out];rfl)
      clear hK
      go_wp2_with fail
      refine dag 16 (by kernel_rfl) (by kernel_rfl) (.is ?_::.is ?_::.is ?_::.is ?_::.is ?_::.is ?_::.is ?_::.is ?_::.is ?_::.is ?_::.is ?_::.is ?_::.is ?_::.is ?_::.is ?_::.is ?_::[]) rfl ?st2 ?ob2
      case st2=>simp[Spec.ok]
      case ob2=>
       intro env W1 hG
       obtain⟨hc,hf⟩:=bcell hG
       repeat (refine obI ?_ ?_;unfold dsA;go_simp;(try go_bits);(first|(refine⟨brefl _,?_⟩;rfl)|rfl);intro K hK;go_simp;refine hK _ ?_;clear hK K)
       refine obN (λ_=>?_)
       have HY1:=Lib.hid (HY.out.later hG)
       clear hc hf hG
       go_wp2
       go_ret2
       exact⟨by rw[show proofV L rs ws=0 by unfold proofV;rw[HE3.out];rfl,HE3.out];rfl,HY1.out.bel⟩
     |true=>
      have HS2:=Lib.hid (show sepB x.hi (ws.drop (i+1+1))=sepB (-1) ws by rw[<-HS.out];rfl)
      clear HS
      go_wp2_with fail
      refine dag 16 (by kernel_rfl) (by kernel_rfl) (.is ?_::.is ?_::.is ?_::.is ?_::.is ?_::.is ?_::.is ?_::.is ?_::.is ?_::.is ?_::.is ?_::.is ?_::.is ?_::.is ?_::.is ?_::.is ?_::[]) rfl ?st3 ?ob3
      case st3=>simp[Spec.ok]
      case ob3=>
       intro env W1 hG
       obtain⟨hc,hf⟩:=bcell hG
       repeat (refine obI ?_ ?_;unfold dsA;go_simp;(try go_bits);(first|(refine⟨brefl _,?_⟩;rfl)|rfl);intro K hK;go_simp;refine hK _ ?_;clear hK K)
       refine obN (λ_=>?_)
       have HY1:=Lib.hid (HY.out.later hG)
       have HG1:=Lib.hid hG
       clear hc hf hG
       have a0:=HY1.out.b0.cell 0
       have a1:=HY1.out.b0.cell 1
       have a2:=HY1.out.b0.lt
       have r0:=(HG1.out.cell (p:=⟨rb,ro+(i+1)*2,none⟩) hrb).trans g0
       have r1:=(HG1.out.cell (p:=⟨rb,ro+(i+1)*2+1,none⟩) hrb).trans g1
       have r2:rb<W1.heap.size:=Nat.lt_of_lt_of_le hrb HG1.out.size
       have Hnd1:=Lib.hid (λW'(hb:Below W1.heap.size W1 W')=>Hnd.out W' (Below.later HG1.out hb))
       clear c0 c1 c2 g0 g1
       go_wp2_with fail
       refine dag 9 (by kernel_rfl) (by kernel_rfl) (.is ?_::.is ?_::.is ?_::.is ?_::.is ?_::.is ?_::.is ?_::.is ?_::.is ?_::[]) rfl ?st4_2 ?ob4_2
       case st4_2=>simp[Spec.ok]
       case ob4_2=>
        intro env W2 hG
        obtain⟨hc,hf⟩:=bcell hG
        iterate 6 (refine obI ?_ ?_;unfold dsA;go_simp;(try go_bits);(first|(refine⟨brefl _,?_⟩;rfl)|rfl);intro K hK;go_simp;refine hK _ ?_;clear hK K)
        refine obI ?_ ?_
        ·unfold dsA
         go_simp
         refine(Hnd1.out W2 hG).mono ?_
         rintro e w3⟨rfl,hb3⟩
         refine⟨?_,hb3⟩
         rfl
        intro K' hK'
        go_simp
        refine hK' _ ?_
        clear hK' K'
        repeat (refine obI ?_ ?_;unfold dsA;go_simp;(try go_bits);(first|(refine⟨brefl _,?_⟩;rfl)|rfl);intro K hK;go_simp;refine hK _ ?_;clear hK K)
        refine obN (λ_=>?_)
        have HY4:=Lib.hid (HY1.out.later hG)
        clear hc hf hG
        go_wp2
        refine hK _ _ (q-1) (by omega) ⟨rfl,i+1+1,_,x.hi,by omega,Lib.hid Hsum.out,Lib.hid HS2.out,Lib.hid HL2.out,Lib.hid (λh=>by omega),HY4.out,?_⟩
        repeat (first|exact ftL|refine ftN ?_|refine ftS ?_)
   ·obtain rfl:i=ws.length:=by omega
    have HV:=Lib.hid (show s=(ws.map (needP L rs)).sum by have h1:=hsum.out.1;rw[List.drop_length]at h1;simpa using h1)
    have HE3:=Lib.hid (show proofE L rs ws=0 by
     have h1:=hsep.out
     rw[List.drop_length]at h1
     rw[HE2.out,<-h1];rfl)
    clear hK hsum hsep hlast hfirst hY
    go_wp2
    go_ret2
    exact⟨by rw[show proofV L rs ws=s by unfold proofV;rw[HE3.out,if_pos rfl,HV.out],HE3.out];rfl,HY.out.bel⟩
 ·have h1:proofE L rs ws=yardE L rs:=by unfold proofE;rw[if_neg he]
  unfold proofV
  rw[h1,if_neg he]
  clear h1
  obtain⟨q,hq⟩:∃q,yardE L rs=q:=⟨_,rfl⟩
  rw[hq]at Hyc he ⊢
  have d1:(q != 0)=true:=by simpa using he
  clear hs ht he hq
  go_enter Tryz.func169,Tryz.ntmps169
  go_wp2_with fail
  refine(Hyc.out _ HY.out.bel).mono ?_
  rintro e w1⟨rfl,hb1⟩
  have hN1:=HY.out.later hb1
  have c0:=hN1.b0.cell 0
  have c1:=hN1.b0.cell 1
  have c2:=hN1.b0.lt
  have HN1:=Lib.hid hN1
  clear hb1 hN1
  go_wp2_with fail
  refine(Hyc.out _ HN1.out.bel).mono ?_
  rintro e w2⟨rfl,hb2⟩
  have HN2:=Lib.hid (HN1.out.later hb2)
  clear hb2
  go_wp2
  go_ret2
  exact⟨rfl,HN2.out.bel⟩
end Go.Proofs.YtifehdoghfnhoaaGreatDoor
