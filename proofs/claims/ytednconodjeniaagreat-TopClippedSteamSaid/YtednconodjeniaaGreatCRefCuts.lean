/- The document's answer: what cuts are worth, or the error. -/
import Derived.Test.YtednconodjeniaaGreatCRefRib
import Derived.Test.YtednconodjeniaaGreatCCheckCuts
namespace Go.Proofs.YtednconodjeniaaGreat.C
open Go.RowKit Go.Shelf
set_option maxHeartbeats 400000 in
theorem refCuts_bad(L:Int)(FA:Option Addr)(fn fc:Nat)(fs:List Int)(KA:Option Addr)(kc:Nat)(ks:List Kd)(PA:Option Addr)(pn pc:Nat)(w:World)(hfs:Sl 1 encI w w.heap.size FA fn fc fs)(hks:Sl 3 encK w w.heap.size KA ks.length kc ks)(hne:rkE L fs ks≠0):
 Calls Tryz.prog 12 #[.agg #[.int .i64 L,.slice FA fn fc],.slice KA ks.length kc,.slice PA pn pc] w λe w'=>e=.returned (.tuple #[.int .i64 0,.int .i64 (rkE L fs ks)])/\Below w.heap.size w w':=by
 have hB0:=balloc (brefl w) (.cells #[.int .i64 L,.slice FA fn fc] 24)
 have hbo:=Lib.hid (λW hb=>both_any L FA fn fc fs KA kc ks W (hfs.later (w':=W) hb) (hks.later hb))
 have hb0:=Blk.new w 24 #[.int .i64 L,.slice FA fn fc]
 obtain⟨W,hW⟩:∃W,w.alloc (.cells #[.int .i64 L,.slice FA fn fc] 24)=W:=⟨_,rfl⟩
 rw[hW]at hB0 hb0
 have HB0:=Lib.hid hB0
 have Hcell:=Lib.hid (show∀W',Below W.heap.size W W'->W'.cell? ⟨w.heap.size,0,none⟩=some (.int .i64 L)/\W'.cell? ⟨w.heap.size,1,none⟩=some (.slice FA fn fc)/\w.heap.size<W'.heap.size fromλW' hb=>⟨(hb0.later hb).cell 0,(hb0.later hb).cell 1,(hb0.later hb).lt⟩)
 clear hfs hks hB0 hb0
 obtain⟨c0,c1,c2⟩:=Hcell.out W (brefl W)
 generalize rkE L fs ks=re at*
 have hn3:(re != 0)=true:=by simpa using hne
 clear hne
 go_enter Tryz.func12,Tryz.ntmps12
 go_wp2_with fail
 clear hW
 refine(hbo.out _ HB0.out).mono ?_
 rintro e w1⟨rfl,hb1⟩
 obtain⟨d0,d1,d2⟩:=Hcell.out w1 hb1
 have HB1:=Lib.hid (Below.later HB0.out hb1)
 clear hb1
 go_wp2_with fail
 refine(hbo.out _ HB1.out).mono ?_
 rintro e w2⟨rfl,hb2⟩
 have HB2:=Lib.hid (Below.later HB1.out hb2)
 clear hb2
 go_wp2
 go_ret2
 exact⟨rfl,HB2.out⟩
structure RQ(w W:World)(L:Nat)(FA:Option Addr)(fn fc:Nat)(fs:List Int)(KA:Option Addr)(kc:Nat)(ks:List Kd)(PA:Option Addr)(pn pc:Nat)(ps:List Sh):Prop where
 bel:Below w.heap.size w W
 fsl:Sl 1 encI W W.heap.size FA fn fc fs
 ksl:Sl 3 encK W W.heap.size KA ks.length kc ks
 psl:Sl 2 encS W W.heap.size PA pn pc ps
 b0:Blk W w.heap.size 24 #[.int .i64 L,.slice FA fn fc]
theorem RQ.later{w W W':World}{L:Nat}{FA:Option Addr}{fn fc:Nat}{fs:List Int}{KA:Option Addr}{kc:Nat}{ks:List Kd}{PA:Option Addr}{pn pc:Nat}{ps:List Sh}(h:RQ w W L FA fn fc fs KA kc ks PA pn pc ps)(hb:Below W.heap.size W W'):RQ w W' L FA fn fc fs KA kc ks PA pn pc ps:=
 ⟨Below.later h.bel hb,h.fsl.later hb,h.ksl.later hb,h.psl.later hb,h.b0.later hb⟩
set_option maxRecDepth 100000 in
set_option maxHeartbeats 8000000 in
theorem refCuts_ok(L:Nat)(FA:Option Addr)(fn fc:Nat)(fs:List Int)(KA:Option Addr)(kc:Nat)(ks:List Kd)(PA:Option Addr)(pn pc:Nat)(ps:List Sh)(w:World)(hfs:Sl 1 encI w w.heap.size FA fn fc fs)(hks:Sl 3 encK w w.heap.size KA ks.length kc ks)(hps:Sl 2 encS w w.heap.size PA pn pc ps)(he:rkE L fs ks=0):
 Calls Tryz.prog 12 #[.agg #[.int .i64 L,.slice FA fn fc],.slice KA ks.length kc,.slice PA pn pc] w λe w'=>e=.returned (.tuple #[.int .i64 (cutsP L (Fst fs L) ks ps).1,.int .i64 (cutsP L (Fst fs L) ks ps).2])/\Below w.heap.size w w':=by
 have hpl:=hps.len
 have hpc:=hps.cap
 have hpb:=hps.big
 obtain⟨⟨hl1,hl2⟩,hko⟩:(1<=(L:Int)/\(L:Int)<=24)/\KOk ks:=by
  unfold rkE at he
  split at he
  ·rename_i h0;exact⟨(ribE_zero h0).1,KOk.of he⟩
  ·rename_i h0;exact absurd he h0
 have hkl:=hko.2.1
 have Hko:=Lib.hid hko
 have hB0:=balloc (brefl w) (.cells #[.int .i64 L,.slice FA fn fc] 24)
 have hR:RQ w (w.alloc (.cells #[.int .i64 L,.slice FA fn fc] 24)) L FA fn fc fs KA kc ks PA pn pc ps:=⟨hB0,hfs.later hB0,hks.later hB0,hps.later hB0,Blk.new w _ _⟩
 obtain⟨W,hW⟩:∃W,w.alloc (.cells #[.int .i64 L,.slice FA fn fc] 24)=W:=⟨_,rfl⟩
 rw[hW]at hR
 have HR:=Lib.hid hR
 have c0:=hR.b0.cell 0
 have c1:=hR.b0.cell 1
 have c2:=hR.b0.lt
 have hbo:=Lib.hid (both_any L FA fn fc fs KA kc ks W hR.fsl hR.ksl)
 rw[he]at hbo
 obtain⟨r,hr⟩:∃r,cutsP L (Fst fs L) ks ps=r:=⟨_,rfl⟩
 rw[hr]
 have Hr:=Lib.hid hr
 clear hfs hks hps hB0 hR he hr hko
 go_enter Tryz.func12,Tryz.ntmps12
 go_wp2_with fail
 clear hW
 refine hbo.out.mono ?_
 rintro e w1⟨rfl,hb1⟩
 have HR1:=Lib.hid (HR.out.later hb1)
 clear hb1 HR hbo c0 c1 c2
 clear W
 have c0:=HR1.out.b0.cell 0
 have c1:=HR1.out.b0.cell 1
 have c2:=HR1.out.b0.lt
 by_cases h1:L<pn
 case pos=>
  have hd:decide ((L:Int)<(pn:Int))=true:=by simp;omega
  have hd0:decide ((pn:Int)<=(L:Int))=false:=by simp;omega
  have hd1:decide (L<pn)=true:=by simpa using h1
  have HE:=Lib.hid (show r=(0,6)by rw[<-Hr.out];unfold cutsP;rw[if_pos (by omega)])
  clear h1
  go_wp2
  go_ret2
  exact⟨by rw[HE.out];rfl,HR1.out.bel⟩
 have hd:decide ((L:Int)<(pn:Int))=false:=by simp;omega
 have hd0:decide ((pn:Int)<=(L:Int))=true:=by simp;omega
 have hd1:decide (L<pn)=false:=by simpa using h1
 have Hpl:=Lib.hid hpl
 have Hnl:=Lib.hid (show¬L<ps.length by omega)
 have hpn:pn<=L:=by omega
 clear hpl
 go_wp2_with fail
 refine loop_n (λm a W=>a.defers=[]/\∃i:Nat,i+m=pn/\RQ w W L FA fn fc fs KA kc ks PA pn pc ps/\(∀j x,j<i->ps[j]? =some x->oddB L ks.length x=false)/\Fits (none::some (.slice KA ks.length kc)::some (.slice PA pn pc)::some (.pointer (some ⟨w.heap.size,0,none⟩))::none::none::none::none::some (.int .i64 (i:Nat))::none::none::none::none::none::none::none::none::none::none::none::none::none::none::none::none::none::none::none::none::none::none::none::none::none::none::none::none::none::none::none::none::none::none::none::none::none::none::none::none::none::none::none::none::none::none::none::none::none::none::none::none::none::none::none::none::none::none::none::none::none::none::none::none::none::none::none::none::none::none::none::none::none::none::none::none::none::none::none::none::none::none::none::none::none::none::none::none::none::none::none::none::none::none::none::none::none::none::none::none::none::none::none::none::none::none::none::none::none::none::none::none::none::none::none::none::none::none::[]) a.tmps.toList) pn ?_ ?_
 ·refine⟨rfl,0,by omega,HR1.out,λj x hj=>by omega,?_⟩
  repeat (first|exact fits_nil|refine fits_none ?_|refine fits_some ?_)
 clear HR1 c0 c1 c2 hd hd0 hd1
 clear w1
 intro m a W hI K hK
 obtain⟨hds,i,him,hR,hno,hfit⟩:=hI
 obtain⟨f,hf⟩:=fits_act hfit
 rw[hds]at hf
 subst hf
 clear hfit hds
 simp only[fillP,Nat.reduceAdd]
 have c0:=hR.b0.cell 0
 have c1:=hR.b0.cell 1
 have c2:=hR.b0.lt
 by_cases hlt:i<pn
 ·obtain⟨b,o,x,rfl,hb,hx,g0,g1⟩:=hR.psl.ltS hlt
  have i1:(i:Int)<(pn:Int):=by omega
  have i2:(0:Int)<=(i:Int):=by omega
  have Hodd:=Lib.hid (show oddB L ks.length x=true->r=(0,3)fromλh=>by
   rw[<-Hr.out]
   have:ps.any (oddB L ks.length)=true:=List.any_eq_true.2 ⟨x,List.mem_of_getElem? hx,h⟩
   simp[cutsP,Hnl.out,this])
  obtain⟨xf,xk⟩:=x
  simp only at g0 g1
  by_cases q1:xf<0
  ·have e1:decide (xf<0)=true:=by simpa using q1
   have HE:=Lib.hid (Hodd.out (by simp[oddB,inR];omega))
   have HR:=Lib.hid hR
   clear hK hno hx hR
   go_wp2_with fail
   refine dag 34 (by kernel_rfl) (by kernel_rfl) (.is ?_::.is ?_::.is ?_::.is ?_::.is ?_::.is ?_::.is ?_::.is ?_::.is ?_::.is ?_::.is ?_::.is ?_::.is ?_::.is ?_::.is ?_::.is ?_::.is ?_::.is ?_::.is ?_::.is ?_::.is ?_::.is ?_::.is ?_::.is ?_::.is ?_::.is ?_::.is ?_::.is ?_::.is ?_::.is ?_::.is ?_::.is ?_::.is ?_::.is ?_::[]) rfl ?st1 ?ob1
   case st1=>simp[Spec.ok]
   case ob1=>
    intro env W' hG
    obtain⟨hc,hf⟩:=bcell hG
    repeat (refine obls_is ?_ ?_;unfold doesAt;go_simp;(try go_bits);(first|(refine⟨brefl _,?_⟩;rfl)|rfl);intro K hK;go_simp;refine hK _ ?_;clear hK K)
    refine obls_nil (λ_=>?_)
    have HR2:=Lib.hid (HR.out.later hG)
    clear hc hf hG
    go_wp2
    go_ret2
    exact⟨by rw[HE.out];rfl,HR2.out.bel⟩
  have e1:decide (xf<0)=false:=by simpa using q1
  by_cases q2:(L:Int)<xf
  ·have e2:decide ((L:Int)<xf)=true:=by simpa using q2
   have HE:=Lib.hid (Hodd.out (by simp[oddB,inR];omega))
   have HR:=Lib.hid hR
   clear hK hno hx hR
   go_wp2_with fail
   refine dag 34 (by kernel_rfl) (by kernel_rfl) (.is ?_::.is ?_::.is ?_::.is ?_::.is ?_::.is ?_::.is ?_::.is ?_::.is ?_::.is ?_::.is ?_::.is ?_::.is ?_::.is ?_::.is ?_::.is ?_::.is ?_::.is ?_::.is ?_::.is ?_::.is ?_::.is ?_::.is ?_::.is ?_::.is ?_::.is ?_::.is ?_::.is ?_::.is ?_::.is ?_::.is ?_::.is ?_::.is ?_::.is ?_::[]) rfl ?st2 ?ob2
   case st2=>simp[Spec.ok]
   case ob2=>
    intro env W' hG
    obtain⟨hc,hf⟩:=bcell hG
    repeat (refine obls_is ?_ ?_;unfold doesAt;go_simp;(try go_bits);(first|(refine⟨brefl _,?_⟩;rfl)|rfl);intro K hK;go_simp;refine hK _ ?_;clear hK K)
    refine obls_nil (λ_=>?_)
    have HR2:=Lib.hid (HR.out.later hG)
    clear hc hf hG
    go_wp2
    go_ret2
    exact⟨by rw[HE.out];rfl,HR2.out.bel⟩
  have e2:decide ((L:Int)<xf)=false:=by simpa using q2
  by_cases q3:xk<0
  ·have e3:decide (xk<0)=true:=by simpa using q3
   have HE:=Lib.hid (Hodd.out (by simp[oddB,inR];omega))
   have HR:=Lib.hid hR
   clear hK hno hx hR
   go_wp2_with fail
   refine dag 34 (by kernel_rfl) (by kernel_rfl) (.is ?_::.is ?_::.is ?_::.is ?_::.is ?_::.is ?_::.is ?_::.is ?_::.is ?_::.is ?_::.is ?_::.is ?_::.is ?_::.is ?_::.is ?_::.is ?_::.is ?_::.is ?_::.is ?_::.is ?_::.is ?_::.is ?_::.is ?_::.is ?_::.is ?_::.is ?_::.is ?_::.is ?_::.is ?_::.is ?_::.is ?_::.is ?_::.is ?_::.is ?_::[]) rfl ?st3 ?ob3
   case st3=>simp[Spec.ok]
   case ob3=>
    intro env W' hG
    obtain⟨hc,hf⟩:=bcell hG
    repeat (refine obls_is ?_ ?_;unfold doesAt;go_simp;(try go_bits);(first|(refine⟨brefl _,?_⟩;rfl)|rfl);intro K hK;go_simp;refine hK _ ?_;clear hK K)
    refine obls_nil (λ_=>?_)
    have HR2:=Lib.hid (HR.out.later hG)
    clear hc hf hG
    go_wp2
    go_ret2
    exact⟨by rw[HE.out];rfl,HR2.out.bel⟩
  have e3:decide (xk<0)=false:=by simpa using q3
  by_cases q4:(ks.length:Int)<=xk
  ·have e4:decide ((ks.length:Int)<=xk)=true:=by simpa using q4
   have HE:=Lib.hid (Hodd.out (by simp[oddB,inR];omega))
   have HR:=Lib.hid hR
   clear hK hno hx hR
   go_wp2_with fail
   refine dag 34 (by kernel_rfl) (by kernel_rfl) (.is ?_::.is ?_::.is ?_::.is ?_::.is ?_::.is ?_::.is ?_::.is ?_::.is ?_::.is ?_::.is ?_::.is ?_::.is ?_::.is ?_::.is ?_::.is ?_::.is ?_::.is ?_::.is ?_::.is ?_::.is ?_::.is ?_::.is ?_::.is ?_::.is ?_::.is ?_::.is ?_::.is ?_::.is ?_::.is ?_::.is ?_::.is ?_::.is ?_::.is ?_::[]) rfl ?st4 ?ob4
   case st4=>simp[Spec.ok]
   case ob4=>
    intro env W' hG
    obtain⟨hc,hf⟩:=bcell hG
    repeat (refine obls_is ?_ ?_;unfold doesAt;go_simp;(try go_bits);(first|(refine⟨brefl _,?_⟩;rfl)|rfl);intro K hK;go_simp;refine hK _ ?_;clear hK K)
    refine obls_nil (λ_=>?_)
    have HR2:=Lib.hid (HR.out.later hG)
    clear hc hf hG
    go_wp2
    go_ret2
    exact⟨by rw[HE.out];rfl,HR2.out.bel⟩
  have e4:decide ((ks.length:Int)<=xk)=false:=by simpa using q4
  have Hno:=Lib.hid (show∀j y,j<i+1->ps[j]? =some y->oddB L ks.length y=false fromλj y hj hy=>by
   by_cases e:j=i
   ·subst e;rw[hx]at hy;cases hy;simp[oddB,inR];omega
   ·exact hno j y (by omega) hy)
  have HR:=Lib.hid hR
  clear hno hx hR
  go_wp2_with fail
  refine dag 34 (by kernel_rfl) (by kernel_rfl) (.is ?_::.is ?_::.is ?_::.is ?_::.is ?_::.is ?_::.is ?_::.is ?_::.is ?_::.is ?_::.is ?_::.is ?_::.is ?_::.is ?_::.is ?_::.is ?_::.is ?_::.is ?_::.is ?_::.is ?_::.is ?_::.is ?_::.is ?_::.is ?_::.is ?_::.is ?_::.is ?_::.is ?_::.is ?_::.is ?_::.is ?_::.is ?_::.is ?_::.is ?_::[]) rfl ?st5 ?ob5
  case st5=>simp[Spec.ok]
  case ob5=>
   intro env W' hG
   obtain⟨hc,hf⟩:=bcell hG
   repeat (refine obls_is ?_ ?_;unfold doesAt;go_simp;(try go_bits);(first|(refine⟨brefl _,?_⟩;rfl)|rfl);intro K hK;go_simp;refine hK _ ?_;clear hK K)
   refine obls_nil (λ_=>?_)
   have HR2:=Lib.hid (HR.out.later hG)
   clear hc hf hG
   go_wp2
   refine hK _ _ (m-1) (by omega) ⟨rfl,i+1,by omega,HR2.out,Hno.out,?_⟩
   repeat (first|exact fits_nil|refine fits_none ?_|refine fits_some ?_)
 ·obtain rfl:i=pn:=by omega
  have hany:ps.any (oddB L ks.length)=false:=by
   cases hq:ps.any (oddB L ks.length)with
   |false=>rfl
   |true=>
    obtain⟨x,hx,hbx⟩:=List.any_eq_true.1 hq
    obtain⟨j,hj⟩:=List.getElem?_of_mem hx
    rw[hno j x (by have:=(List.getElem?_eq_some_iff.1 hj).1;have:=Hpl.out;omega) hj]at hbx
    cases hbx
  have HE:=Lib.hid (show r=if ps.any (λs=>!canS L (Fst fs L) ks s)then(0,18)else walkCuts ks ps 0 0 by
   rw[<-Hr.out];unfold cutsP;rw[if_neg Hnl.out,hany];rfl)
  have Hno:=Lib.hid hno
  have HR:=Lib.hid hR
  clear hno hR hK hany c0 c1 c2
  go_wp2_with fail
  refine loop_n (λm a W=>a.defers=[]/\∃j:Nat,j+m=i/\RQ w W L FA fn fc fs KA kc ks PA i pc ps/\(∀t x,t<j->ps[t]? =some x->canS L (Fst fs L) ks x=true)/\Fits (none::some (.slice KA ks.length kc)::some (.slice PA i pc)::some (.pointer (some ⟨w.heap.size,0,none⟩))::none::none::none::none::none::some (.int .i64 (j:Nat))::none::none::none::none::none::none::none::none::none::none::none::none::none::none::none::none::none::none::none::none::none::none::none::none::none::none::none::none::none::none::none::none::none::none::none::none::none::none::none::none::none::none::none::none::none::none::none::none::none::none::none::none::none::none::none::none::none::none::none::none::none::none::none::none::none::none::none::none::none::none::none::none::none::none::none::none::none::none::none::none::none::none::none::none::none::none::none::none::none::none::none::none::none::none::none::none::none::none::none::none::none::none::none::none::none::none::none::none::none::none::none::none::none::none::none::none::none::[]) a.tmps.toList) i ?_ ?_
  ·refine⟨rfl,0,by omega,HR.out,λj x hj=>by omega,?_⟩
   repeat (first|exact fits_nil|refine fits_none ?_|refine fits_some ?_)
  clear HR
  clear W
  intro m1 a W hI K hK
  obtain⟨hds,j,hjm,hR,hca,hfit⟩:=hI
  obtain⟨f,hf⟩:=fits_act hfit
  rw[hds]at hf
  subst hf
  clear hfit hds
  simp only[fillP,Nat.reduceAdd]
  by_cases hlj:j<i
  ·have c0:=hR.b0.cell 0
   have c1:=hR.b0.cell 1
   have c2:=hR.b0.lt
   obtain⟨b,o,x,rfl,hb,hx,g0,g1⟩:=hR.psl.ltS hlj
   have hod:=Hno.out j x (by omega) hx
   obtain⟨xf,xk⟩:=x
   simp only[oddB,Bool.or_eq_false_iff,Bool.not_eq_false',inR_iff]at hod
   obtain⟨⟨s1,s2⟩,s3,s4⟩:=hod
   obtain⟨fr,rfl⟩:∃fr:Nat,xf=fr:=⟨xf.toNat,by omega⟩
   obtain⟨k,rfl⟩:∃k:Nat,xk=k:=⟨xk.toNat,by omega⟩
   simp only at g0 g1
   obtain⟨kb,ko,y,rfl,hkb,hy,e0,e1,e2⟩:=hR.ksl.ltK (i:=k) (by omega)
   have hyb:=Hko.out.bd hy
   have hcan:=Lib.hid (λW'(hb:Below W.heap.size W W')=>refCan_any L FA fn fc fs y fr W' (hR.later hb).fsl hyb.1.1 hyb.1.2 (by omega) (by omega))
   have hcs:canS L (Fst fs L) ks ⟨fr,k⟩=canB L (Fst fs L) y fr:=by simp[canS,hy]
   have i1:(j:Int)<(i:Int):=by omega
   have i2:(0:Int)<=(j:Int):=by omega
   have k1:(k:Int)<(ks.length:Int):=by omega
   have k2:(0:Int)<=(k:Int):=by omega
   have HR:=Lib.hid hR
   cases hcb:canB L (Fst fs L) y fr with
   |false=>
    rw[hcb]at hcan
    have HE2:=Lib.hid (show r=(0,18)by
     rw[HE.out,if_pos]
     exact List.any_eq_true.2 ⟨_,List.mem_of_getElem? hx,by rw[hcs,hcb];rfl⟩)
    clear hcs hcb hx hR hca hyb hy hK
    go_wp2_with fail
    refine dag 16 (by kernel_rfl) (by kernel_rfl) (.is ?_::.is ?_::.is ?_::.is ?_::.is ?_::.is ?_::.is ?_::.is ?_::.is ?_::.is ?_::.is ?_::.is ?_::.is ?_::.is ?_::.is ?_::.is ?_::[]) rfl ?st6 ?ob6
    case st6=>simp[Spec.ok]
    case ob6=>
     intro env W' hG
     obtain⟨hc,hf⟩:=bcell hG
     iterate 14 (refine obls_is ?_ ?_;unfold doesAt;go_simp;(try go_bits);(first|(refine⟨brefl _,?_⟩;rfl)|rfl);intro K hK;go_simp;refine hK _ ?_;clear hK K)
     refine obls_is ?_ ?_
     ·unfold doesAt
      go_simp
      refine(hcan.out W' hG).mono ?_
      rintro e w1⟨rfl,hb1⟩
      refine⟨?_,hb1⟩
      rfl
     intro K hK
     go_simp
     refine hK _ ?_
     clear hK K
     (refine obls_is ?_ ?_;unfold doesAt;go_simp;(try go_bits);(first|(refine⟨brefl _,?_⟩;rfl)|rfl);intro K hK;go_simp;refine hK _ ?_;clear hK K)
     refine obls_nil (λ_=>?_)
     have HR2:=Lib.hid (HR.out.later hG)
     clear hc hf hG
     go_wp2
     go_ret2
     exact⟨by rw[HE2.out];rfl,HR2.out.bel⟩
   |true=>
    rw[hcb]at hcan
    have Hca:=Lib.hid (show∀t x,t<j+1->ps[t]? =some x->canS L (Fst fs L) ks x=true fromλt x ht hxt=>by
     by_cases e:t=j
     ·subst e;rw[hx]at hxt;cases hxt;rw[hcs,hcb]
     ·exact hca t x (by omega) hxt)
    clear hcs hcb hx hR hca hyb hy
    go_wp2_with fail
    refine dag 16 (by kernel_rfl) (by kernel_rfl) (.is ?_::.is ?_::.is ?_::.is ?_::.is ?_::.is ?_::.is ?_::.is ?_::.is ?_::.is ?_::.is ?_::.is ?_::.is ?_::.is ?_::.is ?_::.is ?_::[]) rfl ?st7 ?ob7
    case st7=>simp[Spec.ok]
    case ob7=>
     intro env W' hG
     obtain⟨hc,hf⟩:=bcell hG
     iterate 14 (refine obls_is ?_ ?_;unfold doesAt;go_simp;(try go_bits);(first|(refine⟨brefl _,?_⟩;rfl)|rfl);intro K hK;go_simp;refine hK _ ?_;clear hK K)
     refine obls_is ?_ ?_
     ·unfold doesAt
      go_simp
      refine(hcan.out W' hG).mono ?_
      rintro e w1⟨rfl,hb1⟩
      refine⟨?_,hb1⟩
      rfl
     intro K hK
     go_simp
     refine hK _ ?_
     clear hK K
     (refine obls_is ?_ ?_;unfold doesAt;go_simp;(try go_bits);(first|(refine⟨brefl _,?_⟩;rfl)|rfl);intro K hK;go_simp;refine hK _ ?_;clear hK K)
     refine obls_nil (λ_=>?_)
     have HR2:=Lib.hid (HR.out.later hG)
     clear hc hf hG
     go_wp2
     refine hK _ _ (m1-1) (by omega) ⟨rfl,j+1,by omega,HR2.out,Hca.out,?_⟩
     repeat (first|exact fits_nil|refine fits_none ?_|refine fits_some ?_)
  ·obtain rfl:j=i:=by omega
   have hany:ps.any (λs=>!canS L (Fst fs L) ks s)=false:=by
    cases hq:ps.any (λs=>!canS L (Fst fs L) ks s)with
    |false=>rfl
    |true=>
     obtain⟨x,hx,hbx⟩:=List.any_eq_true.1 hq
     obtain⟨t,ht⟩:=List.getElem?_of_mem hx
     rw[hca t x (by have:=(List.getElem?_eq_some_iff.1 ht).1;have:=Hpl.out;omega) ht]at hbx
     cases hbx
   have HE2:=Lib.hid (show r=walkCuts ks ps 0 0 by rw[HE.out,hany];rfl)
   have HR:=Lib.hid hR
   clear hca hR hK hany
   go_wp2_with fail
   refine loop_n (λm a W=>a.defers=[]/\∃(t:Nat)(next worth:Int),t+m=j/\walkCuts ks (ps.drop t) next worth=walkCuts ks ps 0 0/\0<=next/\next<=48/\0<=worth/\worth<=1000*t/\RQ w W L FA fn fc fs KA kc ks PA j pc ps/\Fits (none::some (.slice KA ks.length kc)::some (.slice PA j pc)::some (.pointer (some ⟨w.heap.size,0,none⟩))::none::none::none::none::none::none::some (.int .i64 worth)::some (.int .i64 next)::some (.int .i64 (t:Nat))::none::none::none::none::none::none::none::none::none::none::none::none::none::none::none::none::none::none::none::none::none::none::none::none::none::none::none::none::none::none::none::none::none::none::none::none::none::none::none::none::none::none::none::none::none::none::none::none::none::none::none::none::none::none::none::none::none::none::none::none::none::none::none::none::none::none::none::none::none::none::none::none::none::none::none::none::none::none::none::none::none::none::none::none::none::none::none::none::none::none::none::none::none::none::none::none::none::none::none::none::none::none::none::none::none::none::none::none::none::none::none::none::none::none::[]) a.tmps.toList) j ?_ ?_
   ·refine⟨rfl,0,0,0,by omega,by simp,by omega,by omega,by omega,by omega,HR.out,?_⟩
    repeat (first|exact fits_nil|refine fits_none ?_|refine fits_some ?_)
   clear HR
   clear W
   intro m2 a W hI K hK
   obtain⟨hds,t,next,worth,htm,hwk,n1,n2,o1,o2,hR,hfit⟩:=hI
   obtain⟨f,hf⟩:=fits_act hfit
   rw[hds]at hf
   subst hf
   clear hfit hds
   simp only[fillP,Nat.reduceAdd]
   by_cases hlt2:t<j
   ·obtain⟨b,o,x,rfl,hb,hx,g0,g1⟩:=hR.psl.ltS hlt2
    have hdr:ps.drop t=x::ps.drop (t+1):=by
     obtain⟨hi',rfl⟩:=List.getElem?_eq_some_iff.1 hx
     exact List.drop_eq_getElem_cons hi'
    rw[hdr]at hwk
    have hod:=Hno.out t x (by omega) hx
    obtain⟨xf,xk⟩:=x
    simp only[oddB,Bool.or_eq_false_iff,Bool.not_eq_false',inR_iff]at hod
    obtain⟨⟨s1,s2⟩,s3,s4⟩:=hod
    obtain⟨k,rfl⟩:∃k:Nat,xk=k:=⟨xk.toNat,by omega⟩
    simp only at g0 g1
    obtain⟨kb,ko,y,rfl,hkb,hy,e0,e1,e2⟩:=hR.ksl.ltK (i:=k) (by omega)
    have hyb:=Hko.out.bd hy
    have hgd:ks.getD k ⟨0,0,0⟩=y:=by simp[List.getD,hy]
    simp only[walkCuts,Int.toNat_natCast,hgd]at hwk
    have i1:(t:Int)<(j:Int):=by omega
    have i2:(0:Int)<=(t:Int):=by omega
    have k1:(k:Int)<(ks.length:Int):=by omega
    have k2:(0:Int)<=(k:Int):=by omega
    have HR:=Lib.hid hR
    by_cases hnx:xf<next
    ·rw[if_pos hnx]at hwk
     have hd1:decide (xf<next)=true:=by simpa using hnx
     have HR3:=Lib.hid (show r=(0,16)by rw[HE2.out,<-hwk])
     clear hwk hR hK hdr hx hy hgd hyb
     go_wp2
     go_ret2
     exact⟨by rw[HR3.out];rfl,HR.out.bel⟩
    ·rw[if_neg hnx]at hwk
     have hd1:decide (xf<next)=false:=by simpa using hnx
     have Hwk:=Lib.hid hwk
     obtain⟨⟨w1',w2'⟩,⟨p1,p2⟩,_⟩:=hyb
     clear hwk hR hdr hx hy hgd
     go_wp2_with fail
     refine dag 16 (by kernel_rfl) (by kernel_rfl) (.is ?_::.is ?_::.is ?_::.is ?_::.is ?_::.is ?_::.is ?_::.is ?_::.is ?_::.is ?_::.is ?_::.is ?_::.is ?_::.is ?_::.is ?_::.is ?_::[]) rfl ?st8 ?ob8
     case st8=>simp[Spec.ok]
     case ob8=>
      intro env W' hG
      obtain⟨hc,hf⟩:=bcell hG
      repeat (refine obls_is ?_ ?_;unfold doesAt;go_simp;(try go_bits);(first|(refine⟨brefl _,?_⟩;rfl)|rfl);intro K hK;go_simp;refine hK _ ?_;clear hK K)
      refine obls_nil (λ_=>?_)
      have HR2:=Lib.hid (HR.out.later hG)
      clear hG
      go_wp2
      refine hK _ _ (m2-1) (by omega) ⟨rfl,t+1,xf+y.w,worth+y.p,by omega,Hwk.out,by omega,by omega,by omega,by omega,HR2.out,?_⟩
      repeat (first|exact fits_nil|refine fits_none ?_|refine fits_some ?_)
   ·obtain rfl:t=j:=by omega
    rw[List.drop_of_length_le (by have:=Hpl.out;omega)]at hwk
    have HR3:=Lib.hid (show r=(worth,0)by rw[HE2.out,<-hwk];rfl)
    have HR:=Lib.hid hR
    clear hwk hR hK
    go_wp2
    go_ret2
    exact⟨by rw[HR3.out];rfl,HR.out.bel⟩
end Go.Proofs.YtednconodjeniaaGreat.C
