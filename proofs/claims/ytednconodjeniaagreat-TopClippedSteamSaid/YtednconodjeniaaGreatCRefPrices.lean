/- The document's answer: what unit prices prove, or the error. -/
import Derived.Test.YtednconodjeniaaGreatCRefRib
import Derived.Test.YtednconodjeniaaGreatCPath
namespace Go.Proofs.YtednconodjeniaaGreat.C
open Go.RowKit Go.Shelf
set_option maxHeartbeats 400000 in
theorem refPrices_bad(L:Int)(FA:Option Addr)(fn fc:Nat)(fs:List Int)(KA:Option Addr)(kc:Nat)(ks:List Kd)(PA:Option Addr)(pn pc:Nat)(w:World)(hfs:Sl 1 encI w w.heap.size FA fn fc fs)(hks:Sl 3 encK w w.heap.size KA ks.length kc ks)(hne:rkE L fs ks≠0):
 Calls Tryz.prog 75 #[.agg #[.int .i64 L,.slice FA fn fc],.slice KA ks.length kc,.slice PA pn pc] w λe w'=>e=.returned (.tuple #[.int .i64 0,.int .i64 (rkE L fs ks)])/\Below w.heap.size w w':=by
 have hB0:=balloc (brefl w) (.cells #[.int .i64 L,.slice FA fn fc] 24)
 have hbo:=Lib.hid (λW hb=>both_any L FA fn fc fs KA kc ks W (hfs.later (w':=W) hb) (hks.later hb))
 have hb0:=Blk.new w 24 #[.int .i64 L,.slice FA fn fc]
 obtain⟨W,hW⟩:∃W,w.alloc (.cells #[.int .i64 L,.slice FA fn fc] 24)=W:=⟨_,rfl⟩
 rw[hW]at hB0 hb0
 have HB0:=Lib.hid hB0
 have Hcell:=Lib.hid (show∀W',Below W.heap.size W W'->W'.cell? ⟨w.heap.size,0,none⟩=some (.int .i64 L)/\W'.cell? ⟨w.heap.size,1,none⟩=some (.slice FA fn fc)/\w.heap.size<W'.heap.size fromλW' hb=>⟨(hb0.later hb).cell 0,(hb0.later hb).cell 1,(hb0.later hb).lt⟩)
 clear hfs hks hB0 hb0
 obtain⟨c0,c1,c2⟩:=Hcell.out W (brefl W)
 generalize rkE L fs ks=re at*
 have hn3:(re != 0)=true:=by simpa using hne
 clear hne
 go_enter Tryz.func75,Tryz.ntmps75
 go_wp2_with fail
 clear hW
 refine(hbo.out _ HB0.out).mono ?_
 rintro e w1⟨rfl,hb1⟩
 obtain⟨d0,d1,d2⟩:=Hcell.out w1 hb1
 have HB1:=Lib.hid (Below.later HB0.out hb1)
 clear hb1
 go_wp2_with fail
 refine(hbo.out _ HB1.out).mono ?_
 rintro e w2⟨rfl,hb2⟩
 have HB2:=Lib.hid (Below.later HB1.out hb2)
 clear hb2
 go_wp2
 go_ret2
 exact⟨rfl,HB2.out⟩
structure RP(w W:World)(L:Nat)(FA:Option Addr)(fn fc:Nat)(fs:List Int)(KA:Option Addr)(kc:Nat)(ks:List Kd)(PA:Option Addr)(pn pc:Nat)(ps:List Int):Prop where
 bel:Below w.heap.size w W
 fsl:Sl 1 encI W W.heap.size FA fn fc fs
 ksl:Sl 3 encK W W.heap.size KA ks.length kc ks
 psl:Sl 1 encI W W.heap.size PA pn pc ps
 b0:Blk W w.heap.size 24 #[.int .i64 L,.slice FA fn fc]
theorem RP.later{w W W':World}{L:Nat}{FA:Option Addr}{fn fc:Nat}{fs:List Int}{KA:Option Addr}{kc:Nat}{ks:List Kd}{PA:Option Addr}{pn pc:Nat}{ps:List Int}(h:RP w W L FA fn fc fs KA kc ks PA pn pc ps)(hb:Below W.heap.size W W'):RP w W' L FA fn fc fs KA kc ks PA pn pc ps:=
 ⟨Below.later h.bel hb,h.fsl.later hb,h.ksl.later hb,h.psl.later hb,h.b0.later hb⟩
theorem canI_of{L:Nat}{F:Nat->Int}{ks:List Kd}{fr k:Nat}{x:Kd}(h:ks[k]? =some x):canI L F ks fr k=canB L F x fr:=by unfold canI;rw[h]
set_option maxRecDepth 100000 in
set_option maxHeartbeats 4000000 in
theorem refPrices_ok(L:Nat)(FA:Option Addr)(fn fc:Nat)(fs:List Int)(KA:Option Addr)(kc:Nat)(ks:List Kd)(PA:Option Addr)(pn pc:Nat)(ps:List Int)(w:World)(hfs:Sl 1 encI w w.heap.size FA fn fc fs)(hks:Sl 3 encK w w.heap.size KA ks.length kc ks)(hps:Sl 1 encI w w.heap.size PA pn pc ps)(he:rkE L fs ks=0):
 Calls Tryz.prog 75 #[.agg #[.int .i64 L,.slice FA fn fc],.slice KA ks.length kc,.slice PA pn pc] w λe w'=>e=.returned (.tuple #[.int .i64 (pricesP L (Fst fs L) ks ps).1,.int .i64 (pricesP L (Fst fs L) ks ps).2])/\Below w.heap.size w w':=by
 have hpl:=hps.len
 have hpc:=hps.cap
 have hpb:=hps.big
 obtain⟨⟨hl1,hl2⟩,hko⟩:(1<=(L:Int)/\(L:Int)<=24)/\KOk ks:=by
  unfold rkE at he
  split at he
  ·rename_i h0;exact⟨(ribE_zero h0).1,KOk.of he⟩
  ·rename_i h0;exact absurd he h0
 have hkl:=hko.2.1
 have Hko:=Lib.hid hko
 have hB0:=balloc (brefl w) (.cells #[.int .i64 L,.slice FA fn fc] 24)
 have hR:RP w (w.alloc (.cells #[.int .i64 L,.slice FA fn fc] 24)) L FA fn fc fs KA kc ks PA pn pc ps:=⟨hB0,hfs.later hB0,hks.later hB0,hps.later hB0,Blk.new w _ _⟩
 obtain⟨W,hW⟩:∃W,w.alloc (.cells #[.int .i64 L,.slice FA fn fc] 24)=W:=⟨_,rfl⟩
 rw[hW]at hR
 have HR:=Lib.hid hR
 have c0:=hR.b0.cell 0
 have c1:=hR.b0.cell 1
 have c2:=hR.b0.lt
 have hbo:=Lib.hid (both_any L FA fn fc fs KA kc ks W hR.fsl hR.ksl)
 rw[he]at hbo
 obtain⟨r,hr⟩:∃r,pricesP L (Fst fs L) ks ps=r:=⟨_,rfl⟩
 rw[hr]
 have Hr:=Lib.hid hr
 clear hfs hks hps hB0 hR he hr hko
 go_enter Tryz.func75,Tryz.ntmps75
 go_wp2_with fail
 clear hW
 refine hbo.out.mono ?_
 rintro e w1⟨rfl,hb1⟩
 have HR1:=Lib.hid (HR.out.later hb1)
 clear hb1 HR hbo c0 c1 c2
 clear W
 have c0:=HR1.out.b0.cell 0
 have c1:=HR1.out.b0.cell 1
 have c2:=HR1.out.b0.lt
 by_cases h1:pn=L
 case neg=>
  have hd:((pn:Int) != (L:Int))=true:=by simp;omega
  have HE:=Lib.hid (show r=(0,15)by rw[<-Hr.out];exact pricesP_len (by omega))
  clear h1
  go_wp2
  go_ret2
  exact⟨by rw[HE.out];rfl,HR1.out.bel⟩
 subst h1
 have Hpl:=Lib.hid hpl
 clear hpl
 have hd:((pn:Int) != (pn:Int))=false:=by simp
 go_wp2_with fail
 refine loop_n (λm a W=>a.defers=[]/\∃i:Nat,i+m=pn/\RP w W pn FA fn fc fs KA kc ks PA pn pc ps/\(∀j x,j<i->ps[j]? =some x->outP x=false)/\Fits (none::some (.slice KA ks.length kc)::some (.slice PA pn pc)::some (.pointer (some ⟨w.heap.size,0,none⟩))::none::none::none::none::some (.int .i64 (psum ps i))::some (.int .i64 (i:Nat))::none::none::none::none::none::none::none::none::none::none::none::none::none::none::none::none::none::none::none::none::none::none::none::none::none::none::none::none::none::none::none::none::none::none::none::none::none::none::none::none::none::none::none::none::none::none::none::none::none::none::none::none::none::none::none::none::none::none::none::none::none::none::none::none::none::none::none::none::none::none::none::none::none::none::none::none::none::none::none::none::none::none::none::none::none::none::[]) a.tmps.toList) pn ?_ ?_
 ·refine⟨rfl,0,by omega,HR1.out,λj x hj=>by omega,?_⟩
  repeat (first|exact fits_nil|refine fits_none ?_|refine fits_some ?_)
 clear HR1 c0 c1 c2 hd
 clear w1
 intro m a W hI K hK
 obtain⟨hds,i,him,hR,hno,hfit⟩:=hI
 obtain⟨f,hf⟩:=fits_act hfit
 rw[hds]at hf
 subst hf
 clear hfit hds
 simp only[fillP,Nat.reduceAdd]
 by_cases hlt:i<pn
 ·obtain⟨b,o,x,rfl,hb,hx,g0⟩:=hR.psl.ltI hlt
  have i1:(i:Int)<(pn:Int):=by omega
  have i2:(0:Int)<=(i:Int):=by omega
  have hbd:=psum_bd (ps:=ps) (j:=i) (by have:=Hpl.out;omega) hno
  obtain⟨b1,b2⟩:=hbd
  have hps:=psum_succ hx
  have Hout:=Lib.hid (show outP x=true->r=(0,3)fromλh=>by rw[<-Hr.out];exact pricesP_out Hpl.out (List.mem_of_getElem? hx) h)
  by_cases q1:x<0
  ·have e1:decide (x<0)=true:=by simpa using q1
   have HE:=Lib.hid (Hout.out (by simp[outP,q1]))
   have HR:=Lib.hid hR
   clear hK hno hx hR hps
   go_wp2
   go_ret2
   exact⟨by rw[HE.out];rfl,HR.out.bel⟩
  have e1:decide (x<0)=false:=by simpa using q1
  by_cases q2:24000<x
  ·have e2:decide (24000<x)=true:=by simpa using q2
   have HE:=Lib.hid (Hout.out (by simp[outP,q2]))
   have HR:=Lib.hid hR
   clear hK hno hx hR hps
   go_wp2
   go_ret2
   exact⟨by rw[HE.out];rfl,HR.out.bel⟩
  have e2:decide (24000<x)=false:=by simpa using q2
  have Hno:=Lib.hid (show∀j y,j<i+1->ps[j]? =some y->outP y=false fromλj y hj hy=>by
   by_cases e:j=i
   ·subst e;rw[hx]at hy;cases hy;simp[outP,q1,q2]
   ·exact hno j y (by omega) hy)
  have HR:=Lib.hid hR
  have Hps:=Lib.hid hps
  generalize psum ps i=q at*
  clear hno hx hR hps
  go_wp2
  refine hK _ _ (m-1) (by omega) ⟨rfl,i+1,by omega,HR.out,Hno.out,?_⟩
  rw[Hps.out]
  repeat (first|exact fits_nil|refine fits_none ?_|refine fits_some ?_)
 ·obtain rfl:i=pn:=by omega
  have hany:=any_out (ps:=ps) (λj x hj=>hno j x (by have:=Hpl.out;omega))
  have Hno:=Lib.hid hno
  have HE:=Lib.hid (pricesP_cov (L:=i) (F:=Fst fs i) (ks:=ks) Hpl.out hany)
  have HR:=Lib.hid hR
  obtain⟨S,hS⟩:∃S,psum ps i=S:=⟨_,rfl⟩
  rw[hS]
  have HS:=Lib.hid hS
  clear hany hno hR hK hS
  go_wp2_with fail
  refine loop_n (λm a W=>a.defers=[]/\∃fr:Nat,fr+m=i/\RP w W i FA fn fc fs KA kc ks PA i pc ps/\(∀f k,f<fr->k<ks.length->coverAt i (Fst fs i) ks (psum ps) f k=true)/\Fits (none::some (.slice KA ks.length kc)::some (.slice PA i pc)::some (.pointer (some ⟨w.heap.size,0,none⟩))::none::none::none::none::some (.int .i64 S)::none::some (.int .i64 (fr:Nat))::none::none::none::none::none::none::none::none::none::none::none::none::none::none::none::none::none::none::none::none::none::none::none::none::none::none::none::none::none::none::none::none::none::none::none::none::none::none::none::none::none::none::none::none::none::none::none::none::none::none::none::none::none::none::none::none::none::none::none::none::none::none::none::none::none::none::none::none::none::none::none::none::none::none::none::none::none::none::none::none::none::none::none::none::none::[]) a.tmps.toList) i ?_ ?_
  ·refine⟨rfl,0,by omega,HR.out,λf k hf=>by omega,?_⟩
   repeat (first|exact fits_nil|refine fits_none ?_|refine fits_some ?_)
  clear HR
  clear W
  intro m1 a W hI K hK
  obtain⟨hds,fr,hfm,hR,hcv,hfit⟩:=hI
  obtain⟨f,hf⟩:=fits_act hfit
  rw[hds]at hf
  subst hf
  clear hfit hds
  simp only[fillP,Nat.reduceAdd]
  have c0:=hR.b0.cell 0
  have c1:=hR.b0.cell 1
  have c2:=hR.b0.lt
  have Hcv:=Lib.hid hcv
  have HR:=Lib.hid hR
  clear hcv hR
  by_cases hlt:fr<i
  ·have i1:(fr:Int)<(i:Int):=by omega
   have i2:(0:Int)<=(fr:Int):=by omega
   go_wp2_with fail
   clear c0 c1 c2
   refine loop_n (λm a W=>a.defers=[]/\∃k:Nat,k+m=ks.length/\RP w W i FA fn fc fs KA kc ks PA i pc ps/\(∀k',k'<k->coverAt i (Fst fs i) ks (psum ps) fr k'=true)/\Fits (none::some (.slice KA ks.length kc)::some (.slice PA i pc)::some (.pointer (some ⟨w.heap.size,0,none⟩))::none::none::none::none::some (.int .i64 S)::none::some (.int .i64 (fr:Nat))::some (.int .i64 (k:Nat))::none::none::none::none::none::none::none::none::none::none::none::none::none::none::none::none::none::none::none::none::none::none::none::none::none::none::none::none::none::none::none::none::none::none::none::none::none::none::none::none::none::none::none::none::none::none::none::none::none::none::none::none::none::none::none::none::none::none::none::none::none::none::none::none::none::none::none::none::none::none::none::none::none::none::none::none::none::none::none::none::none::none::none::none::[]) a.tmps.toList) ks.length ?_ ?_
   ·refine⟨rfl,0,by omega,HR.out,λk hk=>by omega,?_⟩
    repeat (first|exact fits_nil|refine fits_none ?_|refine fits_some ?_)
   clear HR
   clear W
   intro m2 a W hI K2 hK2
   obtain⟨hds,k,hkm,hR,hck,hfit⟩:=hI
   obtain⟨f,hf⟩:=fits_act hfit
   rw[hds]at hf
   subst hf
   clear hfit hds
   simp only[fillP,Nat.reduceAdd]
   have c0:=hR.b0.cell 0
   have c1:=hR.b0.cell 1
   have c2:=hR.b0.lt
   by_cases hlk:k<ks.length
   ·obtain⟨kb,ko,x,rfl,hkb,hx,g0,g1,g2⟩:=hR.ksl.ltK hlk
    have k1:(k:Int)<(ks.length:Int):=by omega
    have k2:(0:Int)<=(k:Int):=by omega
    have hxb:=Hko.out.bd hx
    have hcan:=Lib.hid (λW'(hb:Below W.heap.size W W')=>refCan_any i FA fn fc fs x fr W' (hR.later hb).fsl hxb.1.1 hxb.1.2 (by omega) (by omega))
    have hci:canI i (Fst fs i) ks fr k=canB i (Fst fs i) x fr:=canI_of hx
    have hgd:ks.getD k ⟨0,0,0⟩=x:=by simp[List.getD,hx]
    have HR:=Lib.hid hR
    have Hck:=Lib.hid hck
    clear hR hck
    obtain⟨wd,hwd⟩:∃wd:Nat,x.w=wd:=⟨x.w.toNat,by omega⟩
    cases hcb:canB i (Fst fs i) x fr with
    |false=>
     rw[hcb]at hcan
     have Hck2:=Lib.hid (show∀k',k'<k+1->coverAt i (Fst fs i) ks (psum ps) fr k'=true fromλk' hk'=>by
      by_cases e:k'=k
      ·subst e;unfold coverAt;rw[hci,hcb];rfl
      ·exact Hck.out k' (by omega))
     clear hci hcb hgd hx hwd hxb
     go_wp2_with fail
     refine dag 8 (by kernel_rfl) (by kernel_rfl) (.is ?_::.is ?_::.is ?_::.is ?_::.is ?_::.is ?_::.is ?_::.is ?_::[]) rfl ?st1 ?ob1
     case st1=>simp[Spec.ok]
     case ob1=>
      intro env W' hG
      obtain⟨hc,hf⟩:=bcell hG
      iterate 6 (refine obls_is ?_ ?_;unfold doesAt;go_simp;(try go_bits);(first|(refine⟨brefl _,?_⟩;rfl)|rfl);intro K hK;go_simp;refine hK _ ?_;clear hK K)
      refine obls_is ?_ ?_
      ·unfold doesAt
       go_simp
       refine(hcan.out W' hG).mono ?_
       rintro e w1⟨rfl,hb1⟩
       refine⟨?_,hb1⟩
       rfl
      intro K hK
      go_simp
      refine hK _ ?_
      clear hK K
      (refine obls_is ?_ ?_;unfold doesAt;go_simp;(try go_bits);(first|(refine⟨brefl _,?_⟩;rfl)|rfl);intro K hK;go_simp;refine hK _ ?_;clear hK K)
      refine obls_nil (λ_=>?_)
      have HR2:=Lib.hid (HR.out.later hG)
      clear hc hf hG
      go_wp2
      refine hK2 _ _ (m2-1) (by omega) ⟨rfl,k+1,by omega,HR2.out,Hck2.out,?_⟩
      repeat (first|exact fits_nil|refine fits_none ?_|refine fits_some ?_)
    |true=>
     rw[hcb]at hcan
     have hle:=(canB_iff.1 hcb).1
     rw[hwd]at hle
     have hca:coverAt i (Fst fs i) ks (psum ps) fr k=decide (x.p<=psum ps (fr+wd)-psum ps fr):=by
      unfold coverAt;rw[hci,hcb,hgd,hwd];rfl
     have Hca:=Lib.hid hca
     have Hx:=Lib.hid hx
     have Hwd:=Lib.hid hwd
     obtain⟨⟨w1',w2'⟩,⟨p1,p2⟩,_⟩:=hxb
     clear hci hcb hgd hca hx hwd
     go_wp2_with fail
     refine dag 8 (by kernel_rfl) (by kernel_rfl) (.is ?_::.is ?_::.is ?_::.is ?_::.is ?_::.is ?_::.is ?_::.is ?_::[]) rfl ?st2 ?ob2
     case st2=>simp[Spec.ok]
     case ob2=>
      intro env W' hG
      obtain⟨hc,hf⟩:=bcell hG
      iterate 6 (refine obls_is ?_ ?_;unfold doesAt;go_simp;(try go_bits);(first|(refine⟨brefl _,?_⟩;rfl)|rfl);intro K hK;go_simp;refine hK _ ?_;clear hK K)
      refine obls_is ?_ ?_
      ·unfold doesAt
       go_simp
       refine(hcan.out W' hG).mono ?_
       rintro e w1⟨rfl,hb1⟩
       refine⟨?_,hb1⟩
       rfl
      intro K hK
      go_simp
      refine hK _ ?_
      clear hK K
      (refine obls_is ?_ ?_;unfold doesAt;go_simp;(try go_bits);(first|(refine⟨brefl _,?_⟩;rfl)|rfl);intro K hK;go_simp;refine hK _ ?_;clear hK K)
      refine obls_nil (λ_=>?_)
      have HR2:=Lib.hid (HR.out.later hG)
      clear hc hf hG HR c0 c1 c2 g0 g1 g2
      go_wp2_with fail
      refine loop_n (λm a W=>a.defers=[]/\∃j:Nat,j+m=wd/\RP w W i FA fn fc fs (some ⟨kb,ko,none⟩) kc ks PA i pc ps/\Fits (none::some (.slice (some ⟨kb,ko,none⟩) ks.length kc)::some (.slice PA i pc)::some (.pointer (some ⟨w.heap.size,0,none⟩))::none::none::none::none::some (.int .i64 S)::none::some (.int .i64 (fr:Nat))::some (.int .i64 (k:Nat))::some (.int .i64 (psum ps (fr+j)-psum ps fr))::some (.int .i64 ((fr:Int)+(j:Nat)))::none::none::none::none::none::none::none::none::none::none::none::none::none::none::none::none::none::none::none::none::none::none::none::none::none::none::none::none::none::none::none::none::none::none::none::none::none::none::none::none::none::none::none::none::none::none::none::none::none::none::none::none::none::none::none::none::none::none::none::none::none::none::none::none::none::none::none::none::none::none::none::none::none::none::none::none::none::none::none::none::none::none::[]) a.tmps.toList) wd ?_ ?_
      ·refine⟨rfl,0,by omega,HR2.out,?_⟩
       simp only[Nat.add_zero,Int.sub_self,Int.natCast_zero,Int.add_zero]
       repeat (first|exact fits_nil|refine fits_none ?_|refine fits_some ?_)
      clear HR2
      intro m3 a W3 hI K3 hK3
      obtain⟨hds,j,hjm,hR,hfit⟩:=hI
      obtain⟨f,hf⟩:=fits_act hfit
      rw[hds]at hf
      subst hf
      clear hfit hds
      simp only[fillP,Nat.reduceAdd]
      obtain⟨kb',ko',x',hA',hkb',hx',g0,g1,_⟩:=hR.ksl.ltK hlk
      cases hA'
      rw[Hx.out]at hx'
      cases hx'
      rw[Hwd.out]at g0
      have hmo:=psum_mono (ps:=ps) (i:=fr) (j:=fr+j) (by omega) (by have:=Hpl.out;omega) (λt y ht hy=>Hno.out t y (by omega) hy)
      obtain⟨q,hq⟩:∃q,psum ps (fr+j)-psum ps fr=q:=⟨_,rfl⟩
      rw[hq]at hmo ⊢
      obtain⟨m1',m2'⟩:=hmo
      by_cases hlj:j<wd
      ·obtain⟨b,o,y,rfl,hb,hy,p0⟩:=hR.psl.ltI (i:=fr+j) (by omega)
       have n1:(fr:Int)+(j:Int)<(fr:Int)+(wd:Int):=by omega
       have n2:(0:Int)<=(fr:Int)+(j:Int):=by omega
       have n3:(fr:Int)+(j:Int)<(i:Int):=by omega
       have n4:((fr:Int)+(j:Int)).toNat=fr+j:=by omega
       have hyo:=Hno.out (fr+j) y (by omega) hy
       simp only[outP,Bool.or_eq_false_iff,decide_eq_false_iff_not]at hyo
       obtain⟨y1,y2⟩:=hyo
       have Hq:=Lib.hid (show psum ps (fr+(j+1))-psum ps fr=q+y by rw[<-Nat.add_assoc,psum_succ hy];omega)
       have HR:=Lib.hid hR
       have y3:0<=y:=by omega
       have y4:y<=24000:=by omega
       clear hy hq hR hK2 hK y1 y2
       go_wp2
       refine hK3 _ _ (m3-1) (by omega) ⟨rfl,j+1,by omega,HR.out,?_⟩
       rw[Hq.out]
       simp only[Int.natCast_add,Int.natCast_one,<-Int.add_assoc]
       repeat (first|exact fits_nil|refine fits_none ?_|refine fits_some ?_)
      ·obtain rfl:j=wd:=by omega
       have n1:decide ((fr:Int)+(j:Int)<(fr:Int)+(j:Int))=false:=by simp
       rw[hq]at Hca
       have HR:=Lib.hid hR
       clear hK3 hR hq
       by_cases hcv:x.p<=q
       ·have e1:decide (q<x.p)=false:=by simp;omega
        have Hck2:=Lib.hid (show∀k',k'<k+1->coverAt i (Fst fs i) ks (psum ps) fr k'=true fromλk' hk'=>by
         by_cases e:k'=k
         ·subst e;rw[Hca.out];simpa using hcv
         ·exact Hck.out k' (by omega))
        go_wp2
        refine hK2 _ _ (m2-1) (by omega) ⟨rfl,k+1,by omega,HR.out,Hck2.out,?_⟩
        repeat (first|exact fits_nil|refine fits_none ?_|refine fits_some ?_)
       ·have e1:decide (q<x.p)=true:=by simp;omega
        have HE3:=Lib.hid (show r=(0,14)by
         rw[<-Hr.out,HE.out,cover_no (fr:=fr) (k:=k) hlt hlk (by rw[Hca.out];simpa using hcv)];rfl)
        clear hK2 hK
        go_wp2
        go_ret2
        exact⟨by rw[HE3.out];rfl,HR.out.bel⟩
   ·obtain rfl:k=ks.length:=by omega
    have Hcv2:=Lib.hid (show∀f k,f<fr+1->k<ks.length->coverAt i (Fst fs i) ks (psum ps) f k=true fromλf k hf hk=>by
     by_cases e:f=fr
     ·subst e;exact hck k hk
     ·exact Hcv.out f k (by omega) hk)
    have HR:=Lib.hid hR
    clear hR hck hK2
    go_wp2
    refine hK _ _ (m1-1) (by omega) ⟨rfl,fr+1,by omega,HR.out,Hcv2.out,?_⟩
    repeat (first|exact fits_nil|refine fits_none ?_|refine fits_some ?_)
  ·obtain rfl:fr=i:=by omega
   have HE2:=Lib.hid (show r=(S,0)by rw[<-Hr.out,HE.out,if_pos (cover_yes Hcv.out),HS.out])
   clear hK
   go_wp2
   go_ret2
   exact⟨by rw[HE2.out];rfl,HR.out.bel⟩
end Go.Proofs.YtednconodjeniaaGreat.C
