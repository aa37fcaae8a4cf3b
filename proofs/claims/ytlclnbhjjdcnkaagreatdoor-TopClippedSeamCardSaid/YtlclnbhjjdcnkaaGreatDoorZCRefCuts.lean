/- The document's answer: what cuts are worth, or the error. -/
import Derived.Test.YtlclnbhjjdcnkaaGreatDoorZCCheckPrices
import Derived.Test.YtlclnbhjjdcnkaaGreatDoorZCOpen
import Derived.Test.YtlclnbhjjdcnkaaGreatDoorZCOutA
namespace Go.Proofs.YtlclnbhjjdcnkaaGreatDoor.C
open Go.RowKit Go.Shelf
set_option maxRecDepth 100000 in
set_option maxHeartbeats 1000000 in
theorem isFault_any(L:Int)(FA:Option Addr)(fn fc:Nat)(fs:List Int)(u:Int)(w:World)(hfs:Sl 1 encI w w.heap.size FA fn fc fs):
 Calls Tryz.prog 58 #[.agg #[.int .i64 L,.slice FA fn fc],.int .i64 u] w λe w'=>e=.returned (.bool (fs.contains u))/\Below w.heap.size w w':=by
 have hcl:=hfs.len
 have hbig:=hfs.big
 have hcap:=hfs.cap
 have hfs2:=hfs.later (balloc (brefl w) (.cells #[.int .i64 L,.slice FA fn fc] 24))
 obtain⟨W,hW⟩:∃W,w.alloc (.cells #[.int .i64 L,.slice FA fn fc] 24)=W:=⟨_,rfl⟩
 have hbel:Below w.heap.size w W:=by rw[<-hW];exact balloc (brefl w) _
 have k1:W.cell? ⟨w.heap.size,1,none⟩=some (.slice FA fn fc):=by rw[<-hW];exact(Blk.new w _ _).cell 1
 have z1:w.heap.size<W.heap.size:=by rw[<-hW];simp
 rw[hW]at hfs2
 have Hfs:=Lib.hid hfs2
 have Hbel:=Lib.hid hbel
 clear hfs hfs2 hbel
 go_enter Tryz.func58,Tryz.ntmps58
 go_wp2_with fail
 clear hW
 refine loop_n (λn a W'=>W=W'/\a.defers=[]/\∃i:Nat,i+n=fn/\(∀j x,j<i->fs[j]? =some x->x≠u)/\Fits (none::some (.int .i64 u)::some (.pointer (some ⟨w.heap.size,0,none⟩))::none::none::some (.int .i64 (i:Nat))::none::none::none::none::none::none::none::none::none::none::none::none::none::none::[]) a.tmps.toList) fn ?_ ?_
 ·refine⟨rfl,rfl,0,by omega,λj x hj=>by omega,?_⟩
  repeat (first|exact fits_nil|refine fits_none ?_|refine fits_some ?_)
 intro n a W' hI K hK
 obtain⟨rfl,hds,i,hin,hno,hfit⟩:=hI
 obtain⟨f,hf⟩:=fits_act hfit
 rw[hds]at hf
 subst hf
 clear hfit hds
 simp only[fillP,Nat.reduceAdd]
 by_cases hlt:i<fn
 ·obtain⟨b,o,x,rfl,hb,hx,hc⟩:=Hfs.out.ltI hlt
  have i1:(i:Int)<(fn:Int):=by omega
  have i2:(0:Int)<=(i:Int):=by omega
  by_cases hxu:x=u
  ·have hq:(x==u)=true:=by simpa using hxu
   have HE:=Lib.hid (show fs.contains u=true by rw[List.contains_iff_mem];rw[<-hxu];exact List.mem_of_getElem? hx)
   clear hno hK hx hxu
   go_wp2
   go_ret
   exact⟨ret_bool HE.out.symm,Hbel.out⟩
  ·have hq:(x==u)=false:=by simpa using hxu
   have Hno:=Lib.hid (show∀j y,j<i+1->fs[j]? =some y->y≠u fromλj y hj hy=>by
    by_cases e:j=i
    ·subst e;rw[hx]at hy;cases hy;exact hxu
    ·exact hno j y (by omega) hy)
   clear hno hx hxu
   go_wp2
   refine hK _ _ (n-1) (by omega) ⟨rfl,rfl,i+1,by omega,Hno.out,?_⟩
   repeat (first|exact fits_nil|refine fits_none ?_|refine fits_some ?_)
 ·obtain rfl:i=fn:=by omega
  have HE:=Lib.hid (show fs.contains u=false by
   rw[<-Bool.not_eq_true,List.contains_iff_mem]
   intro hm
   obtain⟨j,hj⟩:=List.getElem?_of_mem hm
   exact hno j u (by have:=(List.getElem?_eq_some_iff.1 hj).1;omega) hj rfl)
  clear hno hK
  go_wp2
  go_ret
  exact⟨ret_bool HE.out.symm,Hbel.out⟩
structure RB(w W:World)(L:Int)(FA:Option Addr)(fn fc:Nat)(x:Kd)(fs:List Int):Prop where
 bel:Below w.heap.size w W
 fsl:Sl 1 encI W W.heap.size FA fn fc fs
 b0:Blk W w.heap.size 24 #[.int .i64 L,.slice FA fn fc]
 b1:Blk W (w.heap.size+1) 39 #[.int .i64 x.w,.int .i64 x.p,.int .i64 x.m]
theorem RB.later{w W W':World}{L:Int}{FA:Option Addr}{fn fc:Nat}{x:Kd}{fs:List Int}(h:RB w W L FA fn fc x fs)(hb:Below W.heap.size W W'):RB w W' L FA fn fc x fs:=⟨Below.later h.bel hb,h.fsl.later hb,h.b0.later hb,h.b1.later hb⟩
set_option maxRecDepth 100000 in
set_option maxHeartbeats 1000000 in
theorem refCan_any(L:Nat)(FA:Option Addr)(fn fc:Nat)(fs:List Int)(x:Kd)(fr:Nat)(w:World)(hfs:Sl 1 encI w w.heap.size FA fn fc fs)(hx1:1<=x.w)(hx2:x.w<=24)(hL:L<=24)(hfr:fr<=24):
 Calls Tryz.prog 26 #[.agg #[.int .i64 L,.slice FA fn fc],.agg #[.int .i64 x.w,.int .i64 x.p,.int .i64 x.m],.int .i64 fr] w λe w'=>e=.returned (.bool (canB L (Fst fs L) x fr))/\Below w.heap.size w w':=by
 have hR:RB w ((w.alloc (.cells #[.int .i64 L,.slice FA fn fc] 24)).alloc (.cells #[.int .i64 x.w,.int .i64 x.p,.int .i64 x.m] 39)) L FA fn fc x fs:=by
  refine⟨balloc (balloc (brefl w) _) _,hfs.later (balloc (balloc (brefl w) _) _),(Blk.new w _ _).alloc _,?_⟩
  have h5:=Blk.new (w.alloc (.cells #[.int .i64 L,.slice FA fn fc] 24)) 39 #[.int .i64 x.w,.int .i64 x.p,.int .i64 x.m]
  rw[World.size_alloc]at h5
  exact h5
 obtain⟨W,hW⟩:∃W,(w.alloc (.cells #[.int .i64 L,.slice FA fn fc] 24)).alloc (.cells #[.int .i64 x.w,.int .i64 x.p,.int .i64 x.m] 39)=W:=⟨_,rfl⟩
 rw[hW]at hR
 clear hfs
 obtain⟨xw,xp,xm⟩:=x
 simp only at hx1 hx2 hR hW
 obtain⟨wd,rfl⟩:∃wd:Nat,xw=wd:=⟨xw.toNat,by omega⟩
 have c0:=hR.b0.cell 0
 have c1:=hR.b0.cell 1
 have d0:=hR.b1.cell 0
 have z1:=hR.b1.lt
 have z0:w.heap.size<W.heap.size:=by omega
 have HR:=Lib.hid hR
 clear hR
 by_cases hle:fr+wd<=L
 ·have hd:decide ((L:Int)<(fr:Int)+(wd:Int))=false:=by simp;omega
  have HE:=Lib.hid (show canB L (Fst fs L) ⟨wd,xp,xm⟩ fr=decide (cnt fs (fr+wd)-cnt fs fr<=xm)by
   rw[Bool.eq_iff_iff,canB_iff]
   simp only[Int.toNat_natCast,Fst,decide_eq_true_eq]
   rw[if_pos hle,if_pos (by omega)]
   constructor
   ·exactλh=>h.2
   ·exactλh=>⟨by omega,h⟩)
  go_enter Tryz.func26,Tryz.ntmps26
  go_wp2_with fail
  clear hW c0 c1 d0 z0 z1
  refine loop_n (λn a W=>a.defers=[]/\∃i:Nat,i+n=wd/\RB w W L FA fn fc ⟨wd,xp,xm⟩ fs/\Fits (none::none::some (.int .i64 (fr:Nat))::some (.pointer (some ⟨w.heap.size,0,none⟩))::some (.pointer (some ⟨w.heap.size+1,0,none⟩))::none::none::some (.int .i64 (cnt fs (fr+i)-cnt fs fr))::some (.int .i64 ((fr:Int)+(i:Nat)))::none::none::none::none::none::none::none::none::none::none::none::none::none::none::none::none::none::none::none::none::none::none::none::none::none::[]) a.tmps.toList) wd ?_ ?_
  ·refine⟨rfl,0,by omega,HR.out,?_⟩
   simp only[Nat.add_zero,Int.sub_self,Int.natCast_zero,Int.add_zero]
   repeat (first|exact fits_nil|refine fits_none ?_|refine fits_some ?_)
  clear HR
  intro n a W hI K hK
  obtain⟨hds,i,hin,hR,hfit⟩:=hI
  obtain⟨f,hf⟩:=fits_act hfit
  rw[hds]at hf
  subst hf
  clear hfit hds
  simp only[fillP,Nat.reduceAdd]
  have c0:=hR.b0.cell 0
  have c1:=hR.b0.cell 1
  have d0:=hR.b1.cell 0
  have d2:=hR.b1.cell 2
  have z1:=hR.b1.lt
  have z0:w.heap.size<W.heap.size:=by omega
  have hb1:=cnt_bd fs fr
  have hb2:=cnt_bd fs (fr+i)
  obtain⟨q,hq⟩:∃q,cnt fs (fr+i)-cnt fs fr=q:=⟨_,rfl⟩
  rw[hq]
  have hq1:-24<=q/\q<=48:=by omega
  have HR:=Lib.hid hR
  clear hR
  by_cases hlt:i<wd
  ·have i1:(fr:Int)+(i:Int)<(fr:Int)+(wd:Int):=by omega
   have hif:=isFault_any L FA fn fc fs ((fr:Int)+(i:Int)) W HR.out.fsl
   have hcs:=cnt_succ fs (fr+i)
   rw[Int.natCast_add]at hcs
   cases hct:fs.contains ((fr:Int)+(i:Int))with
   |true=>
    rw[hct]at hif hcs
    have Hcs:=Lib.hid (show cnt fs (fr+(i+1))-cnt fs fr=q+1 by rw[<-Nat.add_assoc,hcs,<-hq];simp;omega)
    have Hif:=Lib.hid hif
    clear hif hcs hct hq
    go_wp2_with fail
    refine Hif.out.mono ?_
    rintro e w5⟨rfl,hb5⟩
    have HR5:=Lib.hid (HR.out.later hb5)
    clear hb5
    go_wp2
    refine hK _ _ (n-1) (by omega) ⟨rfl,i+1,by omega,HR5.out,?_⟩
    rw[Hcs.out]
    simp only[Int.natCast_add,Int.natCast_one,<-Int.add_assoc]
    repeat (first|exact fits_nil|refine fits_none ?_|refine fits_some ?_)
   |false=>
    rw[hct]at hif hcs
    have Hcs:=Lib.hid (show cnt fs (fr+(i+1))-cnt fs fr=q by rw[<-Nat.add_assoc,hcs,<-hq];simp)
    have Hif:=Lib.hid hif
    clear hif hcs hct hq
    go_wp2_with fail
    refine Hif.out.mono ?_
    rintro e w5⟨rfl,hb5⟩
    have HR5:=Lib.hid (HR.out.later hb5)
    clear hb5
    go_wp2
    refine hK _ _ (n-1) (by omega) ⟨rfl,i+1,by omega,HR5.out,?_⟩
    rw[Hcs.out]
    simp only[Int.natCast_add,Int.natCast_one,<-Int.add_assoc]
    repeat (first|exact fits_nil|refine fits_none ?_|refine fits_some ?_)
  ·obtain rfl:i=wd:=by omega
   rw[hq]at HE
   have i1:decide ((fr:Int)+(i:Int)<(fr:Int)+(i:Int))=false:=by simp
   clear hK hq
   go_wp2
   go_ret
   exact⟨ret_bool HE.out.symm,HR.out.bel⟩
 ·have hd:decide ((L:Int)<(fr:Int)+(wd:Int))=true:=by simp;omega
  have HE:=Lib.hid (show canB L (Fst fs L) ⟨wd,xp,xm⟩ fr=false by
   rw[<-Bool.not_eq_true,canB_iff]
   exactλh=>by have:=h.1;simp only at this;omega)
  go_enter Tryz.func26,Tryz.ntmps26
  go_wp2
  go_ret
  exact⟨ret_bool HE.out.symm,HR.out.bel⟩
structure KB(w W:World)(A:Option Addr)(c:Nat)(ks:List Kd):Prop where
 bel:Below w.heap.size w W
 sl:Sl 3 encK W W.heap.size A ks.length c ks
theorem KB.later{w W W':World}{A:Option Addr}{c:Nat}{ks:List Kd}(h:KB w W A c ks)(hb:Below W.heap.size W W'):KB w W' A c ks:=⟨Below.later h.bel hb,h.sl.later hb⟩
set_option maxRecDepth 100000 in
set_option maxHeartbeats 1000000 in
theorem refKinds_any(A:Option Addr)(c:Nat)(ks:List Kd)(w:World)(hs:Sl 3 encK w w.heap.size A ks.length c ks):
 Calls Tryz.prog 6 #[.slice A ks.length c] w λe w'=>e=.returned (.int .i64 (kndE ks))/\Below w.heap.size w w':=by
 have hcap:=hs.cap
 have hbig:=hs.big
 have Hs:=Lib.hid hs
 clear hs
 by_cases h1:(ks.length:Int)<1
 ·have d1:decide ((ks.length:Int)<1)=true:=by simpa using h1
  have HE:=Lib.hid (kndE_len (ks:=ks) ((inR_no _ _ _).2 (.inl h1)))
  go_enter Tryz.func6,Tryz.ntmps6
  go_wp2
  go_ret
  exact⟨ret_int HE.out.symm,brefl _⟩
 ·by_cases h2:(6:Int)<(ks.length:Int)
  ·have d1:decide ((ks.length:Int)<1)=false:=by simpa using h1
   have d2:decide ((6:Int)<(ks.length:Int))=true:=by simpa using h2
   have HE:=Lib.hid (kndE_len (ks:=ks) ((inR_no _ _ _).2 (.inr h2)))
   go_enter Tryz.func6,Tryz.ntmps6
   go_wp2
   go_ret
   exact⟨ret_int HE.out.symm,brefl _⟩
  ·have d1:decide ((ks.length:Int)<1)=false:=by simpa using h1
   have d2:decide ((6:Int)<(ks.length:Int))=false:=by simpa using h2
   have HE:=Lib.hid (kndE_of (ks:=ks) ((inR_iff _ _ _).2 ⟨by omega,by omega⟩))
   go_enter Tryz.func6,Tryz.ntmps6
   go_wp2_with fail
   clear d1 d2
   refine loop_n (λn a W=>a.defers=[]/\∃i:Nat,i+n=ks.length/\KB w W A c ks/\(∀j x,j<i->ks[j]? =some x->badK x=false)/\Fits (some (.slice A ks.length c)::none::none::some (.int .i64 (i:Nat))::none::none::none::none::none::none::none::none::none::none::none::none::none::none::none::none::none::none::none::none::none::none::none::none::none::none::none::none::none::none::none::none::none::none::none::none::none::none::none::none::none::none::none::none::none::none::none::[]) a.tmps.toList) ks.length ?_ ?_
   ·refine⟨rfl,0,by omega,⟨brefl _,Hs.out⟩,λj x hj=>by omega,?_⟩
    repeat (first|exact fits_nil|refine fits_none ?_|refine fits_some ?_)
   clear Hs
   intro n a W hI K hK
   obtain⟨hds,i,hin,hB,hno,hfit⟩:=hI
   obtain⟨f,hf⟩:=fits_act hfit
   rw[hds]at hf
   subst hf
   clear hfit hds
   simp only[fillP,Nat.reduceAdd]
   by_cases hlt:i<ks.length
   ·obtain⟨b,o,x,rfl,hb,hx,g0,g1,g2⟩:=hB.sl.ltK hlt
    have i1:(i:Int)<(ks.length:Int):=by omega
    have HB:=Lib.hid (hB.later (balloc (brefl W) (.cells #[.int .i64 x.w,.int .i64 x.p,.int .i64 x.m] 39)))
    clear hB
    have hE3:badK x=true->kndE ks=3:=λh=>by rw[HE.out,if_pos (List.any_eq_true.2 ⟨x,List.mem_of_getElem? hx,h⟩)]
    have HE3:=Lib.hid hE3
    clear hE3
    by_cases q1:x.w<1
    ·have e1:decide (x.w<1)=true:=by simpa using q1
     have HR:=Lib.hid (HE3.out (badK_of1 ((inR_no _ _ _).2 (.inl q1))))
     clear hK hno hx
     go_wp2
     go_ret
     exact⟨ret_int HR.out.symm,HB.out.bel⟩
    have e1:decide (x.w<1)=false:=by simpa using q1
    by_cases q2:24<x.w
    ·have e2:decide (24<x.w)=true:=by simpa using q2
     have HR:=Lib.hid (HE3.out (badK_of1 ((inR_no _ _ _).2 (.inr q2))))
     clear hK hno hx
     go_wp2
     go_ret
     exact⟨ret_int HR.out.symm,HB.out.bel⟩
    have e2:decide (24<x.w)=false:=by simpa using q2
    by_cases q3:x.p<1
    ·have e3:decide (x.p<1)=true:=by simpa using q3
     have HR:=Lib.hid (HE3.out (badK_of2 q3))
     clear hK hno hx
     go_wp2
     go_ret
     exact⟨ret_int HR.out.symm,HB.out.bel⟩
    have e3:decide (x.p<1)=false:=by simpa using q3
    by_cases q4:1000<x.p
    ·have e4:decide (1000<x.p)=true:=by simpa using q4
     have HR:=Lib.hid (HE3.out (badK_of3 q4))
     clear hK hno hx
     go_wp2
     go_ret
     exact⟨ret_int HR.out.symm,HB.out.bel⟩
    have e4:decide (1000<x.p)=false:=by simpa using q4
    by_cases q5:x.m<0
    ·have e5:decide (x.m<0)=true:=by simpa using q5
     have HR:=Lib.hid (HE3.out (badK_of4 ((inR_no _ _ _).2 (.inl q5))))
     clear hK hno hx
     go_wp2
     go_ret
     exact⟨ret_int HR.out.symm,HB.out.bel⟩
    have e5:decide (x.m<0)=false:=by simpa using q5
    by_cases q6:24<x.m
    ·have e6:decide (24<x.m)=true:=by simpa using q6
     have HR:=Lib.hid (HE3.out (badK_of4 ((inR_no _ _ _).2 (.inr q6))))
     clear hK hno hx
     go_wp2
     go_ret
     exact⟨ret_int HR.out.symm,HB.out.bel⟩
    have e6:decide (24<x.m)=false:=by simpa using q6
    have hgood:badK x=false:=by
     rw[badK_iff]
     omega
    have Hno:=Lib.hid (show∀j y,j<i+1->ks[j]? =some y->badK y=false fromλj y hj hy=>by
     by_cases e:j=i
     ·subst e;rw[hx]at hy;cases hy;exact hgood
     ·exact hno j y (by omega) hy)
    clear hno hx hgood
    go_wp2
    refine hK _ _ (n-1) (by omega) ⟨rfl,i+1,by omega,HB.out,Hno.out,?_⟩
    repeat (first|exact fits_nil|refine fits_none ?_|refine fits_some ?_)
   ·obtain rfl:i=ks.length:=by omega
    have HR:=Lib.hid (show kndE ks=0 by
     rw[HE.out]
     cases hq:ks.any badK with
     |false=>rfl
     |true=>
      obtain⟨x,hx,hbx⟩:=List.any_eq_true.1 hq
      obtain⟨j,hj⟩:=List.getElem?_of_mem hx
      rw[hno j x (List.getElem?_eq_some_iff.1 hj).1 hj]at hbx
      cases hbx)
    have HB:=Lib.hid hB
    clear hno hK hB
    go_wp2
    go_ret
    exact⟨ret_int HR.out.symm,HB.out.bel⟩
structure RR(w W:World)(L:Int)(A:Option Addr)(n c:Nat)(fs:List Int):Prop where
 bel:Below w.heap.size w W
 sl:Sl 1 encI W W.heap.size A n c fs
 b0:Blk W w.heap.size 24 #[.int .i64 L,.slice A n c]
theorem RR.later{w W W':World}{L:Int}{A:Option Addr}{n c:Nat}{fs:List Int}(h:RR w W L A n c fs)(hb:Below W.heap.size W W'):RR w W' L A n c fs:=⟨Below.later h.bel hb,h.sl.later hb,h.b0.later hb⟩
set_option maxRecDepth 100000 in
set_option maxHeartbeats 2000000 in
theorem refRib_any(L:Int)(A:Option Addr)(m c:Nat)(fs:List Int)(w:World)(hs:Sl 1 encI w w.heap.size A m c fs):
 Calls Tryz.prog 5 #[.agg #[.int .i64 L,.slice A m c]] w λe w'=>e=.returned (.int .i64 (ribE L fs))/\Below w.heap.size w w':=by
 have hcl:=hs.len
 have hcap:=hs.cap
 have hbig:=hs.big
 have HB0:=Lib.hid (show RR w (w.alloc (.cells #[.int .i64 L,.slice A m c] 24)) L A m c fs from⟨balloc (brefl w) _,hs.later (balloc (brefl w) _),Blk.new w _ _⟩)
 clear hs
 by_cases h1:L<1
 ·have d1:decide (L<1)=true:=by simpa using h1
  have HE:=Lib.hid (ribE_len (fs:=fs) ((inR_no _ _ _).2 (.inl h1)))
  go_enter Tryz.func5,Tryz.ntmps5
  go_wp2
  go_ret
  exact⟨ret_int HE.out.symm,balloc (brefl w) _⟩
 ·by_cases h2:24<L
  ·have d1:decide (L<1)=false:=by simpa using h1
   have d2:decide (24<L)=true:=by simpa using h2
   have HE:=Lib.hid (ribE_len (fs:=fs) ((inR_no _ _ _).2 (.inr h2)))
   go_enter Tryz.func5,Tryz.ntmps5
   go_wp2
   go_ret
   exact⟨ret_int HE.out.symm,balloc (brefl w) _⟩
  ·have d1:decide (L<1)=false:=by simpa using h1
   have d2:decide (24<L)=false:=by simpa using h2
   have hL:inR 1 24 L=true:=(inR_iff _ _ _).2 ⟨by omega,by omega⟩
   go_enter Tryz.func5,Tryz.ntmps5
   go_wp2_with fail
   clear d1 d2
   refine loop_n (λn a W=>a.defers=[]/\∃i:Nat,i+n=m/\RR w W L A m c fs/\(∀j,j<i->gdB L fs j=true)/\Fits (none::some (.pointer (some ⟨w.heap.size,0,none⟩))::none::some (.int .i64 (i:Nat))::none::none::none::none::none::none::none::none::none::none::none::none::none::none::none::none::none::none::none::none::none::none::none::none::none::none::none::none::none::none::none::none::none::none::none::none::none::none::none::none::none::none::none::none::none::none::none::none::none::[]) a.tmps.toList) m ?_ ?_
   ·refine⟨rfl,0,by omega,HB0.out,λj hj=>by omega,?_⟩
    repeat (first|exact fits_nil|refine fits_none ?_|refine fits_some ?_)
   clear HB0
   intro n a W hI K hK'
   obtain⟨hds,i,hin,hB,hno,hfit⟩:=hI
   obtain⟨f,hf⟩:=fits_act hfit
   rw[hds]at hf
   subst hf
   clear hfit hds
   simp only[fillP,Nat.reduceAdd]
   have c0:=hB.b0.cell 0
   have c1:=hB.b0.cell 1
   have z0:=hB.b0.lt
   by_cases hlt:i<m
   ·obtain⟨b,o,x,rfl,hb,hx,g0⟩:=hB.sl.ltI hlt
    have i1:(i:Int)<(m:Int):=by omega
    have i2:(0:Int)<=(i:Int):=by omega
    have hd:fs.getD i 0=x:=by simp[List.getD,hx]
    have hbad:gdB L fs i=false->ribE L fs=3:=λh=>ribE_bad hL (by omega) h
    by_cases q1:x<0
    ·have e1:decide (x<0)=true:=by simpa using q1
     have HR:=Lib.hid (hbad (by unfold gdB;rw[hd];simp;omega))
     have HB:=Lib.hid hB
     clear hK' hno hx hB hd hbad
     go_wp2_with fail
     refine dag 34 (by kernel_rfl) (by kernel_rfl) (.is ?_::.is ?_::.is ?_::.is ?_::.is ?_::.is ?_::.is ?_::.is ?_::.is ?_::.is ?_::.is ?_::.is ?_::.is ?_::.is ?_::.is ?_::.is ?_::.is ?_::.is ?_::.is ?_::.is ?_::.is ?_::.is ?_::.is ?_::.is ?_::.is ?_::.is ?_::.is ?_::.is ?_::.is ?_::.is ?_::.is ?_::.is ?_::.is ?_::.is ?_::[]) rfl ?st1 ?ob1
     case st1=>simp[Spec.ok]
     case ob1=>
      intro env W' hG
      obtain⟨hc,hf⟩:=bcell hG
      repeat (refine obls_is ?_ ?_;unfold doesAt;go_simp;(try go_bits);(first|(refine⟨brefl _,?_⟩;rfl)|rfl);intro K hK;go_simp;refine hK _ ?_;clear hK K)
      refine obls_nil (λ_=>?_)
      have HB2:=Lib.hid (HB.out.later hG)
      clear hc hf hG
      go_wp2
      go_ret
      exact⟨ret_int HR.out.symm,HB2.out.bel⟩
    have e1:decide (x<0)=false:=by simpa using q1
    by_cases q2:L<=x
    ·have e2:decide (L<=x)=true:=by simpa using q2
     have HR:=Lib.hid (hbad (by unfold gdB;rw[hd];simp;omega))
     have HB:=Lib.hid hB
     clear hK' hno hx hB hd hbad
     go_wp2_with fail
     refine dag 34 (by kernel_rfl) (by kernel_rfl) (.is ?_::.is ?_::.is ?_::.is ?_::.is ?_::.is ?_::.is ?_::.is ?_::.is ?_::.is ?_::.is ?_::.is ?_::.is ?_::.is ?_::.is ?_::.is ?_::.is ?_::.is ?_::.is ?_::.is ?_::.is ?_::.is ?_::.is ?_::.is ?_::.is ?_::.is ?_::.is ?_::.is ?_::.is ?_::.is ?_::.is ?_::.is ?_::.is ?_::.is ?_::[]) rfl ?st2 ?ob2
     case st2=>simp[Spec.ok]
     case ob2=>
      intro env W' hG
      obtain⟨hc,hf⟩:=bcell hG
      repeat (refine obls_is ?_ ?_;unfold doesAt;go_simp;(try go_bits);(first|(refine⟨brefl _,?_⟩;rfl)|rfl);intro K hK;go_simp;refine hK _ ?_;clear hK K)
      refine obls_nil (λ_=>?_)
      have HB2:=Lib.hid (HB.out.later hG)
      clear hc hf hG
      go_wp2
      go_ret
      exact⟨ret_int HR.out.symm,HB2.out.bel⟩
    have e2:decide (L<=x)=false:=by simpa using q2
    by_cases q3:i=0
    ·have e3:decide ((0:Int)<(i:Int))=false:=by simp;omega
     have e3n:¬(0<i):=by omega
     have hgood:gdB L fs i=true:=by unfold gdB;rw[hd];simp;omega
     have Hno:=Lib.hid (gd_succ hno hgood)
     have HB:=Lib.hid hB
     clear hno hx hB hd hbad hgood q3
     go_wp2_with fail
     refine dag 34 (by kernel_rfl) (by kernel_rfl) (.is ?_::.is ?_::.is ?_::.is ?_::.is ?_::.is ?_::.is ?_::.is ?_::.is ?_::.is ?_::.is ?_::.is ?_::.is ?_::.is ?_::.is ?_::.is ?_::.is ?_::.is ?_::.is ?_::.is ?_::.is ?_::.is ?_::.is ?_::.is ?_::.is ?_::.is ?_::.is ?_::.is ?_::.is ?_::.is ?_::.is ?_::.is ?_::.is ?_::.is ?_::[]) rfl ?st3 ?ob3
     case st3=>simp[Spec.ok]
     case ob3=>
      intro env W' hG
      obtain⟨hc,hf⟩:=bcell hG
      repeat (refine obls_is ?_ ?_;unfold doesAt;go_simp;(try go_bits);(first|(refine⟨brefl _,?_⟩;rfl)|rfl);intro K hK;go_simp;refine hK _ ?_;clear hK K)
      refine obls_nil (λ_=>?_)
      have HB2:=Lib.hid (HB.out.later hG)
      clear hc hf hG
      go_wp2
      refine hK' _ _ (n-1) (by omega) ⟨rfl,i+1,by omega,HB2.out,Hno.out,?_⟩
      repeat (first|exact fits_nil|refine fits_none ?_|refine fits_some ?_)
    have e3:decide ((0:Int)<(i:Int))=true:=by simp;omega
    have e3n:0<i:=by omega
    obtain⟨b',o',y,hA',_,hy,g1⟩:=hB.sl.ltI (i:=i-1) (by omega)
    cases hA'
    have i3:(0:Int)<=(i:Int)-1:=by omega
    have i6:(1:Int)<=(i:Int):=by omega
    have i4:(i:Int)-1<(m:Int):=by omega
    have i5:((i:Int)-1).toNat=i-1:=by omega
    have hd2:fs.getD (i-1) 0=y:=by simp[List.getD,hy]
    by_cases q4:x<=y
    ·have e4:decide (x<=y)=true:=by simpa using q4
     have HR:=Lib.hid (hbad (by unfold gdB;rw[hd,hd2];simp;omega))
     have HB:=Lib.hid hB
     clear hK' hno hx hB hd hbad hd2 hy
     go_wp2_with fail
     refine dag 34 (by kernel_rfl) (by kernel_rfl) (.is ?_::.is ?_::.is ?_::.is ?_::.is ?_::.is ?_::.is ?_::.is ?_::.is ?_::.is ?_::.is ?_::.is ?_::.is ?_::.is ?_::.is ?_::.is ?_::.is ?_::.is ?_::.is ?_::.is ?_::.is ?_::.is ?_::.is ?_::.is ?_::.is ?_::.is ?_::.is ?_::.is ?_::.is ?_::.is ?_::.is ?_::.is ?_::.is ?_::.is ?_::[]) rfl ?st4 ?ob4
     case st4=>simp[Spec.ok]
     case ob4=>
      intro env W' hG
      obtain⟨hc,hf⟩:=bcell hG
      repeat (refine obls_is ?_ ?_;unfold doesAt;go_simp;(try go_bits);(first|(refine⟨brefl _,?_⟩;rfl)|rfl);intro K hK;go_simp;refine hK _ ?_;clear hK K)
      refine obls_nil (λ_=>?_)
      have HB2:=Lib.hid (HB.out.later hG)
      clear hc hf hG
      go_wp2
      go_ret
      exact⟨ret_int HR.out.symm,HB2.out.bel⟩
    ·have e4:decide (x<=y)=false:=by simpa using q4
     have hgood:gdB L fs i=true:=by unfold gdB;rw[hd,hd2];simp;omega
     have Hno:=Lib.hid (gd_succ hno hgood)
     have HB:=Lib.hid hB
     clear hno hx hB hd hbad hgood hd2 hy
     go_wp2_with fail
     refine dag 34 (by kernel_rfl) (by kernel_rfl) (.is ?_::.is ?_::.is ?_::.is ?_::.is ?_::.is ?_::.is ?_::.is ?_::.is ?_::.is ?_::.is ?_::.is ?_::.is ?_::.is ?_::.is ?_::.is ?_::.is ?_::.is ?_::.is ?_::.is ?_::.is ?_::.is ?_::.is ?_::.is ?_::.is ?_::.is ?_::.is ?_::.is ?_::.is ?_::.is ?_::.is ?_::.is ?_::.is ?_::.is ?_::[]) rfl ?st5 ?ob5
     case st5=>simp[Spec.ok]
     case ob5=>
      intro env W' hG
      obtain⟨hc,hf⟩:=bcell hG
      repeat (refine obls_is ?_ ?_;unfold doesAt;go_simp;(try go_bits);(first|(refine⟨brefl _,?_⟩;rfl)|rfl);intro K hK;go_simp;refine hK _ ?_;clear hK K)
      refine obls_nil (λ_=>?_)
      have HB2:=Lib.hid (HB.out.later hG)
      clear hc hf hG
      go_wp2
      refine hK' _ _ (n-1) (by omega) ⟨rfl,i+1,by omega,HB2.out,Hno.out,?_⟩
      repeat (first|exact fits_nil|refine fits_none ?_|refine fits_some ?_)
   ·obtain rfl:i=m:=by omega
    have HR:=Lib.hid (ribE_ok hL (λj hj=>hno j (by omega)))
    have HB2:=Lib.hid hB
    clear hno hK' hB
    go_wp2
    go_ret
    exact⟨ret_int HR.out.symm,HB2.out.bel⟩
set_option maxHeartbeats 400000 in
theorem both_any(L:Int)(FA:Option Addr)(fn fc:Nat)(fs:List Int)(KA:Option Addr)(kc:Nat)(ks:List Kd)(w:World)(hfs:Sl 1 encI w w.heap.size FA fn fc fs)(hks:Sl 3 encK w w.heap.size KA ks.length kc ks):
 Calls Tryz.prog 25 #[.agg #[.int .i64 L,.slice FA fn fc],.slice KA ks.length kc] w λe w'=>e=.returned (.int .i64 (rkE L fs ks))/\Below w.heap.size w w':=by
 have hB0:=balloc (brefl w) (.cells #[.int .i64 L,.slice FA fn fc] 24)
 have hr:=Lib.hid (λW hb=>refRib_any L FA fn fc fs W (hfs.later (w':=W) hb))
 have hk:=Lib.hid (λW hb=>refKinds_any KA kc ks W (hks.later (w':=W) hb))
 have hb0:=Blk.new w 24 #[.int .i64 L,.slice FA fn fc]
 obtain⟨W,hW⟩:∃W,w.alloc (.cells #[.int .i64 L,.slice FA fn fc] 24)=W:=⟨_,rfl⟩
 rw[hW]at hB0 hb0
 have HB0:=Lib.hid hB0
 have Hb0:=Lib.hid hb0
 clear hfs hks hB0 hb0
 have hcell:∀W',Below W.heap.size W W'->W'.cell? ⟨w.heap.size,0,none⟩=some (.int .i64 L)/\W'.cell? ⟨w.heap.size,1,none⟩=some (.slice FA fn fc)/\w.heap.size<W'.heap.size:=λW' hb=>⟨(Hb0.out.later hb).cell 0,(Hb0.out.later hb).cell 1,(Hb0.out.later hb).lt⟩
 have Hcell:=Lib.hid hcell
 clear hcell
 obtain⟨c0,c1,c2⟩:=Hcell.out W (brefl W)
 unfold rkE
 by_cases h0:ribE L fs=0
 ·rw[if_pos h0]
  rw[h0]at hr
  clear h0
  go_enter Tryz.func25,Tryz.ntmps25
  go_wp2_with fail
  clear hW
  refine(hr.out _ HB0.out).mono ?_
  rintro e w1⟨rfl,hb1⟩
  have HB1:=Lib.hid (Below.later HB0.out hb1)
  clear hb1
  go_wp2_with fail
  refine(hk.out _ HB1.out).mono ?_
  rintro e w2⟨rfl,hb2⟩
  have HB2:=Lib.hid (Below.later HB1.out hb2)
  clear hb2
  go_wp2
  go_ret
  exact⟨rfl,HB2.out⟩
 ·rw[if_neg h0]
  generalize ribE L fs=re at*
  have hn3:(re != 0)=true:=by simpa using h0
  clear h0
  go_enter Tryz.func25,Tryz.ntmps25
  go_wp2_with fail
  clear hW
  refine(hr.out _ HB0.out).mono ?_
  rintro e w1⟨rfl,hb1⟩
  obtain⟨d0,d1,d2⟩:=Hcell.out w1 hb1
  have HB1:=Lib.hid (Below.later HB0.out hb1)
  clear hb1
  go_wp2_with fail
  refine(hr.out _ HB1.out).mono ?_
  rintro e w2⟨rfl,hb2⟩
  have HB2:=Lib.hid (Below.later HB1.out hb2)
  clear hb2
  go_wp2
  go_ret
  exact⟨rfl,HB2.out⟩
end Go.Proofs.YtlclnbhjjdcnkaaGreatDoor.C
namespace Go.Proofs.YtlclnbhjjdcnkaaGreatDoor.C
open Go.RowKit Go.Shelf
structure RQ(w W:World)(L:Nat)(FA:Option Addr)(fn fc:Nat)(fs:List Int)(KA:Option Addr)(kc:Nat)(ks:List Kd)(PA:Option Addr)(pn pc:Nat)(ps:List Sh):Prop where
 bel:Below w.heap.size w W
 fsl:Sl 1 encI W W.heap.size FA fn fc fs
 ksl:Sl 3 encK W W.heap.size KA ks.length kc ks
 psl:Sl 2 encS W W.heap.size PA pn pc ps
 b0:Blk W w.heap.size 24 #[.int .i64 L,.slice FA fn fc]
theorem RQ.later{w W W':World}{L:Nat}{FA:Option Addr}{fn fc:Nat}{fs:List Int}{KA:Option Addr}{kc:Nat}{ks:List Kd}{PA:Option Addr}{pn pc:Nat}{ps:List Sh}(h:RQ w W L FA fn fc fs KA kc ks PA pn pc ps)(hb:Below W.heap.size W W'):RQ w W' L FA fn fc fs KA kc ks PA pn pc ps:=
 ⟨Below.later h.bel hb,h.fsl.later hb,h.ksl.later hb,h.psl.later hb,h.b0.later hb⟩
set_option maxRecDepth 100000 in
set_option maxHeartbeats 8000000 in
theorem refCuts_ok(L:Nat)(FA:Option Addr)(fn fc:Nat)(fs:List Int)(KA:Option Addr)(kc:Nat)(ks:List Kd)(PA:Option Addr)(pn pc:Nat)(ps:List Sh)(w:World)(hfs:Sl 1 encI w w.heap.size FA fn fc fs)(hks:Sl 3 encK w w.heap.size KA ks.length kc ks)(hps:Sl 2 encS w w.heap.size PA pn pc ps)(he:rkE L fs ks=0):
 Calls Tryz.prog 9 #[.agg #[.int .i64 L,.slice FA fn fc],.slice KA ks.length kc,.slice PA pn pc] w λe w'=>e=.returned (.tuple #[.int .i64 (cutsP L (Fst fs L) ks ps).1,.int .i64 (cutsP L (Fst fs L) ks ps).2])/\Below w.heap.size w w':=by
 have hpl:=hps.len
 have hpc:=hps.cap
 have hpb:=hps.big
 obtain⟨⟨hl1,hl2⟩,hko⟩:(1<=(L:Int)/\(L:Int)<=24)/\KOk ks:=by
  unfold rkE at he
  split at he
  ·rename_i h0;exact⟨(ribE_zero h0).1,KOk.of he⟩
  ·rename_i h0;exact absurd he h0
 have hkl:=hko.2.1
 have Hko:=Lib.hid hko
 have hB0:=balloc (brefl w) (.cells #[.int .i64 L,.slice FA fn fc] 24)
 have hR:RQ w (w.alloc (.cells #[.int .i64 L,.slice FA fn fc] 24)) L FA fn fc fs KA kc ks PA pn pc ps:=⟨hB0,hfs.later hB0,hks.later hB0,hps.later hB0,Blk.new w _ _⟩
 obtain⟨W,hW⟩:∃W,w.alloc (.cells #[.int .i64 L,.slice FA fn fc] 24)=W:=⟨_,rfl⟩
 rw[hW]at hR
 have HR:=Lib.hid hR
 have c0:=hR.b0.cell 0
 have c1:=hR.b0.cell 1
 have c2:=hR.b0.lt
 have hbo:=Lib.hid (both_any L FA fn fc fs KA kc ks W hR.fsl hR.ksl)
 rw[he]at hbo
 obtain⟨r,hr⟩:∃r,cutsP L (Fst fs L) ks ps=r:=⟨_,rfl⟩
 rw[hr]
 have Hr:=Lib.hid hr
 clear hfs hks hps hB0 hR he hr hko
 go_enter Tryz.func9,Tryz.ntmps9
 go_wp2_with fail
 clear hW
 refine hbo.out.mono ?_
 rintro e w1⟨rfl,hb1⟩
 have HR1:=Lib.hid (HR.out.later hb1)
 clear hb1 HR hbo c0 c1 c2
 clear W
 have c0:=HR1.out.b0.cell 0
 have c1:=HR1.out.b0.cell 1
 have c2:=HR1.out.b0.lt
 by_cases h1:L<pn
 case pos=>
  have hd:decide ((L:Int)<(pn:Int))=true:=by simp;omega
  have hd0:decide ((pn:Int)<=(L:Int))=false:=by simp;omega
  have hd1:decide (L<pn)=true:=by simpa using h1
  have HE:=Lib.hid (show r=(0,6)by rw[<-Hr.out];unfold cutsP;rw[if_pos (by omega)])
  clear h1
  go_wp2
  go_ret2
  exact⟨by rw[HE.out];rfl,HR1.out.bel⟩
 have hd:decide ((L:Int)<(pn:Int))=false:=by simp;omega
 have hd0:decide ((pn:Int)<=(L:Int))=true:=by simp;omega
 have hd1:decide (L<pn)=false:=by simpa using h1
 have Hpl:=Lib.hid hpl
 have Hnl:=Lib.hid (show¬L<ps.length by omega)
 have hpn:pn<=L:=by omega
 clear hpl
 go_wp2_with fail
 refine loop_n (λm a W=>a.defers=[]/\∃i:Nat,i+m=pn/\RQ w W L FA fn fc fs KA kc ks PA pn pc ps/\(∀j x,j<i->ps[j]? =some x->oddB L ks.length x=false)/\Fits (none::some (.slice KA ks.length kc)::some (.slice PA pn pc)::some (.pointer (some ⟨w.heap.size,0,none⟩))::none::none::none::none::some (.int .i64 (i:Nat))::none::none::none::none::none::none::none::none::none::none::none::none::none::none::none::none::none::none::none::none::none::none::none::none::none::none::none::none::none::none::none::none::none::none::none::none::none::none::none::none::none::none::none::none::none::none::none::none::none::none::none::none::none::none::none::none::none::none::none::none::none::none::none::none::none::none::none::none::none::none::none::none::none::none::none::none::none::none::none::none::none::none::none::none::none::none::none::none::none::none::none::none::none::none::none::none::none::none::none::none::none::none::none::none::none::none::none::none::none::none::none::none::none::none::none::none::none::none::[]) a.tmps.toList) pn ?_ ?_
 ·refine⟨rfl,0,by omega,HR1.out,λj x hj=>by omega,?_⟩
  repeat (first|exact fits_nil|refine fits_none ?_|refine fits_some ?_)
 clear HR1 c0 c1 c2 hd hd0 hd1
 clear w1
 intro m a W hI K hK
 obtain⟨hds,i,him,hR,hno,hfit⟩:=hI
 obtain⟨f,hf⟩:=fits_act hfit
 rw[hds]at hf
 subst hf
 clear hfit hds
 simp only[fillP,Nat.reduceAdd]
 have c0:=hR.b0.cell 0
 have c1:=hR.b0.cell 1
 have c2:=hR.b0.lt
 by_cases hlt:i<pn
 ·obtain⟨b,o,x,rfl,hb,hx,g0,g1⟩:=hR.psl.ltS hlt
  have i1:(i:Int)<(pn:Int):=by omega
  have i2:(0:Int)<=(i:Int):=by omega
  have Hodd:=Lib.hid (show oddB L ks.length x=true->r=(0,3)fromλh=>by
   rw[<-Hr.out]
   have:ps.any (oddB L ks.length)=true:=List.any_eq_true.2 ⟨x,List.mem_of_getElem? hx,h⟩
   simp[cutsP,Hnl.out,this])
  obtain⟨xf,xk⟩:=x
  simp only at g0 g1
  by_cases q1:xf<0
  ·have e1:decide (xf<0)=true:=by simpa using q1
   have HE:=Lib.hid (Hodd.out (by simp[oddB,inR];omega))
   have HR:=Lib.hid hR
   clear hK hno hx hR
   go_wp2_with fail
   refine dag 34 (by kernel_rfl) (by kernel_rfl) (.is ?_::.is ?_::.is ?_::.is ?_::.is ?_::.is ?_::.is ?_::.is ?_::.is ?_::.is ?_::.is ?_::.is ?_::.is ?_::.is ?_::.is ?_::.is ?_::.is ?_::.is ?_::.is ?_::.is ?_::.is ?_::.is ?_::.is ?_::.is ?_::.is ?_::.is ?_::.is ?_::.is ?_::.is ?_::.is ?_::.is ?_::.is ?_::.is ?_::.is ?_::[]) rfl ?st1 ?ob1
   case st1=>simp[Spec.ok]
   case ob1=>
    intro env W' hG
    obtain⟨hc,hf⟩:=bcell hG
    repeat (refine obls_is ?_ ?_;unfold doesAt;go_simp;(try go_bits);(first|(refine⟨brefl _,?_⟩;rfl)|rfl);intro K hK;go_simp;refine hK _ ?_;clear hK K)
    refine obls_nil (λ_=>?_)
    have HR2:=Lib.hid (HR.out.later hG)
    clear hc hf hG
    go_wp2
    go_ret2
    exact⟨by rw[HE.out];rfl,HR2.out.bel⟩
  have e1:decide (xf<0)=false:=by simpa using q1
  by_cases q2:(L:Int)<xf
  ·have e2:decide ((L:Int)<xf)=true:=by simpa using q2
   have HE:=Lib.hid (Hodd.out (by simp[oddB,inR];omega))
   have HR:=Lib.hid hR
   clear hK hno hx hR
   go_wp2_with fail
   refine dag 34 (by kernel_rfl) (by kernel_rfl) (.is ?_::.is ?_::.is ?_::.is ?_::.is ?_::.is ?_::.is ?_::.is ?_::.is ?_::.is ?_::.is ?_::.is ?_::.is ?_::.is ?_::.is ?_::.is ?_::.is ?_::.is ?_::.is ?_::.is ?_::.is ?_::.is ?_::.is ?_::.is ?_::.is ?_::.is ?_::.is ?_::.is ?_::.is ?_::.is ?_::.is ?_::.is ?_::.is ?_::.is ?_::[]) rfl ?st2 ?ob2
   case st2=>simp[Spec.ok]
   case ob2=>
    intro env W' hG
    obtain⟨hc,hf⟩:=bcell hG
    repeat (refine obls_is ?_ ?_;unfold doesAt;go_simp;(try go_bits);(first|(refine⟨brefl _,?_⟩;rfl)|rfl);intro K hK;go_simp;refine hK _ ?_;clear hK K)
    refine obls_nil (λ_=>?_)
    have HR2:=Lib.hid (HR.out.later hG)
    clear hc hf hG
    go_wp2
    go_ret2
    exact⟨by rw[HE.out];rfl,HR2.out.bel⟩
  have e2:decide ((L:Int)<xf)=false:=by simpa using q2
  by_cases q3:xk<0
  ·have e3:decide (xk<0)=true:=by simpa using q3
   have HE:=Lib.hid (Hodd.out (by simp[oddB,inR];omega))
   have HR:=Lib.hid hR
   clear hK hno hx hR
   go_wp2_with fail
   refine dag 34 (by kernel_rfl) (by kernel_rfl) (.is ?_::.is ?_::.is ?_::.is ?_::.is ?_::.is ?_::.is ?_::.is ?_::.is ?_::.is ?_::.is ?_::.is ?_::.is ?_::.is ?_::.is ?_::.is ?_::.is ?_::.is ?_::.is ?_::.is ?_::.is ?_::.is ?_::.is ?_::.is ?_::.is ?_::.is ?_::.is ?_::.is ?_::.is ?_::.is ?_::.is ?_::.is ?_::.is ?_::.is ?_::[]) rfl ?st3 ?ob3
   case st3=>simp[Spec.ok]
   case ob3=>
    intro env W' hG
    obtain⟨hc,hf⟩:=bcell hG
    repeat (refine obls_is ?_ ?_;unfold doesAt;go_simp;(try go_bits);(first|(refine⟨brefl _,?_⟩;rfl)|rfl);intro K hK;go_simp;refine hK _ ?_;clear hK K)
    refine obls_nil (λ_=>?_)
    have HR2:=Lib.hid (HR.out.later hG)
    clear hc hf hG
    go_wp2
    go_ret2
    exact⟨by rw[HE.out];rfl,HR2.out.bel⟩
  have e3:decide (xk<0)=false:=by simpa using q3
  by_cases q4:(ks.length:Int)<=xk
  ·have e4:decide ((ks.length:Int)<=xk)=true:=by simpa using q4
   have HE:=Lib.hid (Hodd.out (by simp[oddB,inR];omega))
   have HR:=Lib.hid hR
   clear hK hno hx hR
   go_wp2_with fail
   refine dag 34 (by kernel_rfl) (by kernel_rfl) (.is ?_::.is ?_::.is ?_::.is ?_::.is ?_::.is ?_::.is ?_::.is ?_::.is ?_::.is ?_::.is ?_::.is ?_::.is ?_::.is ?_::.is ?_::.is ?_::.is ?_::.is ?_::.is ?_::.is ?_::.is ?_::.is ?_::.is ?_::.is ?_::.is ?_::.is ?_::.is ?_::.is ?_::.is ?_::.is ?_::.is ?_::.is ?_::.is ?_::.is ?_::[]) rfl ?st4 ?ob4
   case st4=>simp[Spec.ok]
   case ob4=>
    intro env W' hG
    obtain⟨hc,hf⟩:=bcell hG
    repeat (refine obls_is ?_ ?_;unfold doesAt;go_simp;(try go_bits);(first|(refine⟨brefl _,?_⟩;rfl)|rfl);intro K hK;go_simp;refine hK _ ?_;clear hK K)
    refine obls_nil (λ_=>?_)
    have HR2:=Lib.hid (HR.out.later hG)
    clear hc hf hG
    go_wp2
    go_ret2
    exact⟨by rw[HE.out];rfl,HR2.out.bel⟩
  have e4:decide ((ks.length:Int)<=xk)=false:=by simpa using q4
  have Hno:=Lib.hid (show∀j y,j<i+1->ps[j]? =some y->oddB L ks.length y=false fromλj y hj hy=>by
   by_cases e:j=i
   ·subst e;rw[hx]at hy;cases hy;simp[oddB,inR];omega
   ·exact hno j y (by omega) hy)
  have HR:=Lib.hid hR
  clear hno hx hR
  go_wp2_with fail
  refine dag 34 (by kernel_rfl) (by kernel_rfl) (.is ?_::.is ?_::.is ?_::.is ?_::.is ?_::.is ?_::.is ?_::.is ?_::.is ?_::.is ?_::.is ?_::.is ?_::.is ?_::.is ?_::.is ?_::.is ?_::.is ?_::.is ?_::.is ?_::.is ?_::.is ?_::.is ?_::.is ?_::.is ?_::.is ?_::.is ?_::.is ?_::.is ?_::.is ?_::.is ?_::.is ?_::.is ?_::.is ?_::.is ?_::[]) rfl ?st5 ?ob5
  case st5=>simp[Spec.ok]
  case ob5=>
   intro env W' hG
   obtain⟨hc,hf⟩:=bcell hG
   repeat (refine obls_is ?_ ?_;unfold doesAt;go_simp;(try go_bits);(first|(refine⟨brefl _,?_⟩;rfl)|rfl);intro K hK;go_simp;refine hK _ ?_;clear hK K)
   refine obls_nil (λ_=>?_)
   have HR2:=Lib.hid (HR.out.later hG)
   clear hc hf hG
   go_wp2
   refine hK _ _ (m-1) (by omega) ⟨rfl,i+1,by omega,HR2.out,Hno.out,?_⟩
   repeat (first|exact fits_nil|refine fits_none ?_|refine fits_some ?_)
 ·obtain rfl:i=pn:=by omega
  have hany:ps.any (oddB L ks.length)=false:=by
   cases hq:ps.any (oddB L ks.length)with
   |false=>rfl
   |true=>
    obtain⟨x,hx,hbx⟩:=List.any_eq_true.1 hq
    obtain⟨j,hj⟩:=List.getElem?_of_mem hx
    rw[hno j x (by have:=(List.getElem?_eq_some_iff.1 hj).1;have:=Hpl.out;omega) hj]at hbx
    cases hbx
  have HE:=Lib.hid (show r=if ps.any (λs=>!canS L (Fst fs L) ks s)then(0,18)else walkCuts ks ps 0 0 by
   rw[<-Hr.out];unfold cutsP;rw[if_neg Hnl.out,hany];rfl)
  have Hno:=Lib.hid hno
  have HR:=Lib.hid hR
  clear hno hR hK hany c0 c1 c2
  go_wp2_with fail
  refine loop_n (λm a W=>a.defers=[]/\∃j:Nat,j+m=i/\RQ w W L FA fn fc fs KA kc ks PA i pc ps/\(∀t x,t<j->ps[t]? =some x->canS L (Fst fs L) ks x=true)/\Fits (none::some (.slice KA ks.length kc)::some (.slice PA i pc)::some (.pointer (some ⟨w.heap.size,0,none⟩))::none::none::none::none::none::some (.int .i64 (j:Nat))::none::none::none::none::none::none::none::none::none::none::none::none::none::none::none::none::none::none::none::none::none::none::none::none::none::none::none::none::none::none::none::none::none::none::none::none::none::none::none::none::none::none::none::none::none::none::none::none::none::none::none::none::none::none::none::none::none::none::none::none::none::none::none::none::none::none::none::none::none::none::none::none::none::none::none::none::none::none::none::none::none::none::none::none::none::none::none::none::none::none::none::none::none::none::none::none::none::none::none::none::none::none::none::none::none::none::none::none::none::none::none::none::none::none::none::none::none::[]) a.tmps.toList) i ?_ ?_
  ·refine⟨rfl,0,by omega,HR.out,λj x hj=>by omega,?_⟩
   repeat (first|exact fits_nil|refine fits_none ?_|refine fits_some ?_)
  clear HR
  clear W
  intro m1 a W hI K hK
  obtain⟨hds,j,hjm,hR,hca,hfit⟩:=hI
  obtain⟨f,hf⟩:=fits_act hfit
  rw[hds]at hf
  subst hf
  clear hfit hds
  simp only[fillP,Nat.reduceAdd]
  by_cases hlj:j<i
  ·have c0:=hR.b0.cell 0
   have c1:=hR.b0.cell 1
   have c2:=hR.b0.lt
   obtain⟨b,o,x,rfl,hb,hx,g0,g1⟩:=hR.psl.ltS hlj
   have hod:=Hno.out j x (by omega) hx
   obtain⟨xf,xk⟩:=x
   simp only[oddB,Bool.or_eq_false_iff,Bool.not_eq_false',inR_iff]at hod
   obtain⟨⟨s1,s2⟩,s3,s4⟩:=hod
   obtain⟨fr,rfl⟩:∃fr:Nat,xf=fr:=⟨xf.toNat,by omega⟩
   obtain⟨k,rfl⟩:∃k:Nat,xk=k:=⟨xk.toNat,by omega⟩
   simp only at g0 g1
   obtain⟨kb,ko,y,rfl,hkb,hy,e0,e1,e2⟩:=hR.ksl.ltK (i:=k) (by omega)
   have hyb:=Hko.out.bd hy
   have hcan:=Lib.hid (λW'(hb:Below W.heap.size W W')=>refCan_any L FA fn fc fs y fr W' (hR.later hb).fsl hyb.1.1 hyb.1.2 (by omega) (by omega))
   have hcs:canS L (Fst fs L) ks ⟨fr,k⟩=canB L (Fst fs L) y fr:=by simp[canS,hy]
   have i1:(j:Int)<(i:Int):=by omega
   have i2:(0:Int)<=(j:Int):=by omega
   have k1:(k:Int)<(ks.length:Int):=by omega
   have k2:(0:Int)<=(k:Int):=by omega
   have HR:=Lib.hid hR
   cases hcb:canB L (Fst fs L) y fr with
   |false=>
    rw[hcb]at hcan
    have HE2:=Lib.hid (show r=(0,18)by
     rw[HE.out,if_pos]
     exact List.any_eq_true.2 ⟨_,List.mem_of_getElem? hx,by rw[hcs,hcb];rfl⟩)
    clear hcs hcb hx hR hca hyb hy hK
    go_wp2_with fail
    refine dag 16 (by kernel_rfl) (by kernel_rfl) (.is ?_::.is ?_::.is ?_::.is ?_::.is ?_::.is ?_::.is ?_::.is ?_::.is ?_::.is ?_::.is ?_::.is ?_::.is ?_::.is ?_::.is ?_::.is ?_::[]) rfl ?st6 ?ob6
    case st6=>simp[Spec.ok]
    case ob6=>
     intro env W' hG
     obtain⟨hc,hf⟩:=bcell hG
     iterate 14 (refine obls_is ?_ ?_;unfold doesAt;go_simp;(try go_bits);(first|(refine⟨brefl _,?_⟩;rfl)|rfl);intro K hK;go_simp;refine hK _ ?_;clear hK K)
     refine obls_is ?_ ?_
     ·unfold doesAt
      go_simp
      refine(hcan.out W' hG).mono ?_
      rintro e w1⟨rfl,hb1⟩
      refine⟨?_,hb1⟩
      rfl
     intro K hK
     go_simp
     refine hK _ ?_
     clear hK K
     (refine obls_is ?_ ?_;unfold doesAt;go_simp;(try go_bits);(first|(refine⟨brefl _,?_⟩;rfl)|rfl);intro K hK;go_simp;refine hK _ ?_;clear hK K)
     refine obls_nil (λ_=>?_)
     have HR2:=Lib.hid (HR.out.later hG)
     clear hc hf hG
     go_wp2
     go_ret2
     exact⟨by rw[HE2.out];rfl,HR2.out.bel⟩
   |true=>
    rw[hcb]at hcan
    have Hca:=Lib.hid (show∀t x,t<j+1->ps[t]? =some x->canS L (Fst fs L) ks x=true fromλt x ht hxt=>by
     by_cases e:t=j
     ·subst e;rw[hx]at hxt;cases hxt;rw[hcs,hcb]
     ·exact hca t x (by omega) hxt)
    clear hcs hcb hx hR hca hyb hy
    go_wp2_with fail
    refine dag 16 (by kernel_rfl) (by kernel_rfl) (.is ?_::.is ?_::.is ?_::.is ?_::.is ?_::.is ?_::.is ?_::.is ?_::.is ?_::.is ?_::.is ?_::.is ?_::.is ?_::.is ?_::.is ?_::.is ?_::[]) rfl ?st7 ?ob7
    case st7=>simp[Spec.ok]
    case ob7=>
     intro env W' hG
     obtain⟨hc,hf⟩:=bcell hG
     iterate 14 (refine obls_is ?_ ?_;unfold doesAt;go_simp;(try go_bits);(first|(refine⟨brefl _,?_⟩;rfl)|rfl);intro K hK;go_simp;refine hK _ ?_;clear hK K)
     refine obls_is ?_ ?_
     ·unfold doesAt
      go_simp
      refine(hcan.out W' hG).mono ?_
      rintro e w1⟨rfl,hb1⟩
      refine⟨?_,hb1⟩
      rfl
     intro K hK
     go_simp
     refine hK _ ?_
     clear hK K
     (refine obls_is ?_ ?_;unfold doesAt;go_simp;(try go_bits);(first|(refine⟨brefl _,?_⟩;rfl)|rfl);intro K hK;go_simp;refine hK _ ?_;clear hK K)
     refine obls_nil (λ_=>?_)
     have HR2:=Lib.hid (HR.out.later hG)
     clear hc hf hG
     go_wp2
     refine hK _ _ (m1-1) (by omega) ⟨rfl,j+1,by omega,HR2.out,Hca.out,?_⟩
     repeat (first|exact fits_nil|refine fits_none ?_|refine fits_some ?_)
  ·obtain rfl:j=i:=by omega
   have hany:ps.any (λs=>!canS L (Fst fs L) ks s)=false:=by
    cases hq:ps.any (λs=>!canS L (Fst fs L) ks s)with
    |false=>rfl
    |true=>
     obtain⟨x,hx,hbx⟩:=List.any_eq_true.1 hq
     obtain⟨t,ht⟩:=List.getElem?_of_mem hx
     rw[hca t x (by have:=(List.getElem?_eq_some_iff.1 ht).1;have:=Hpl.out;omega) ht]at hbx
     cases hbx
   have HE2:=Lib.hid (show r=walkCuts ks ps 0 0 by rw[HE.out,hany];rfl)
   have HR:=Lib.hid hR
   clear hca hR hK hany
   go_wp2_with fail
   refine loop_n (λm a W=>a.defers=[]/\∃(t:Nat)(next worth:Int),t+m=j/\walkCuts ks (ps.drop t) next worth=walkCuts ks ps 0 0/\0<=next/\next<=48/\0<=worth/\worth<=1000*t/\RQ w W L FA fn fc fs KA kc ks PA j pc ps/\Fits (none::some (.slice KA ks.length kc)::some (.slice PA j pc)::some (.pointer (some ⟨w.heap.size,0,none⟩))::none::none::none::none::none::none::some (.int .i64 worth)::some (.int .i64 next)::some (.int .i64 (t:Nat))::none::none::none::none::none::none::none::none::none::none::none::none::none::none::none::none::none::none::none::none::none::none::none::none::none::none::none::none::none::none::none::none::none::none::none::none::none::none::none::none::none::none::none::none::none::none::none::none::none::none::none::none::none::none::none::none::none::none::none::none::none::none::none::none::none::none::none::none::none::none::none::none::none::none::none::none::none::none::none::none::none::none::none::none::none::none::none::none::none::none::none::none::none::none::none::none::none::none::none::none::none::none::none::none::none::none::none::none::none::none::none::none::none::none::[]) a.tmps.toList) j ?_ ?_
   ·refine⟨rfl,0,0,0,by omega,by simp,by omega,by omega,by omega,by omega,HR.out,?_⟩
    repeat (first|exact fits_nil|refine fits_none ?_|refine fits_some ?_)
   clear HR
   clear W
   intro m2 a W hI K hK
   obtain⟨hds,t,next,worth,htm,hwk,n1,n2,o1,o2,hR,hfit⟩:=hI
   obtain⟨f,hf⟩:=fits_act hfit
   rw[hds]at hf
   subst hf
   clear hfit hds
   simp only[fillP,Nat.reduceAdd]
   by_cases hlt2:t<j
   ·obtain⟨b,o,x,rfl,hb,hx,g0,g1⟩:=hR.psl.ltS hlt2
    have hdr:ps.drop t=x::ps.drop (t+1):=by
     obtain⟨hi',rfl⟩:=List.getElem?_eq_some_iff.1 hx
     exact List.drop_eq_getElem_cons hi'
    rw[hdr]at hwk
    have hod:=Hno.out t x (by omega) hx
    obtain⟨xf,xk⟩:=x
    simp only[oddB,Bool.or_eq_false_iff,Bool.not_eq_false',inR_iff]at hod
    obtain⟨⟨s1,s2⟩,s3,s4⟩:=hod
    obtain⟨k,rfl⟩:∃k:Nat,xk=k:=⟨xk.toNat,by omega⟩
    simp only at g0 g1
    obtain⟨kb,ko,y,rfl,hkb,hy,e0,e1,e2⟩:=hR.ksl.ltK (i:=k) (by omega)
    have hyb:=Hko.out.bd hy
    have hgd:ks.getD k ⟨0,0,0⟩=y:=by simp[List.getD,hy]
    simp only[walkCuts,Int.toNat_natCast,hgd]at hwk
    have i1:(t:Int)<(j:Int):=by omega
    have i2:(0:Int)<=(t:Int):=by omega
    have k1:(k:Int)<(ks.length:Int):=by omega
    have k2:(0:Int)<=(k:Int):=by omega
    have HR:=Lib.hid hR
    by_cases hnx:xf<next
    ·rw[if_pos hnx]at hwk
     have hd1:decide (xf<next)=true:=by simpa using hnx
     have HR3:=Lib.hid (show r=(0,16)by rw[HE2.out,<-hwk])
     clear hwk hR hK hdr hx hy hgd hyb
     go_wp2
     go_ret2
     exact⟨by rw[HR3.out];rfl,HR.out.bel⟩
    ·rw[if_neg hnx]at hwk
     have hd1:decide (xf<next)=false:=by simpa using hnx
     have Hwk:=Lib.hid hwk
     obtain⟨⟨w1',w2'⟩,⟨p1,p2⟩,_⟩:=hyb
     clear hwk hR hdr hx hy hgd
     go_wp2_with fail
     refine dag 16 (by kernel_rfl) (by kernel_rfl) (.is ?_::.is ?_::.is ?_::.is ?_::.is ?_::.is ?_::.is ?_::.is ?_::.is ?_::.is ?_::.is ?_::.is ?_::.is ?_::.is ?_::.is ?_::.is ?_::[]) rfl ?st8 ?ob8
     case st8=>simp[Spec.ok]
     case ob8=>
      intro env W' hG
      obtain⟨hc,hf⟩:=bcell hG
      repeat (refine obls_is ?_ ?_;unfold doesAt;go_simp;(try go_bits);(first|(refine⟨brefl _,?_⟩;rfl)|rfl);intro K hK;go_simp;refine hK _ ?_;clear hK K)
      refine obls_nil (λ_=>?_)
      have HR2:=Lib.hid (HR.out.later hG)
      clear hG
      go_wp2
      refine hK _ _ (m2-1) (by omega) ⟨rfl,t+1,xf+y.w,worth+y.p,by omega,Hwk.out,by omega,by omega,by omega,by omega,HR2.out,?_⟩
      repeat (first|exact fits_nil|refine fits_none ?_|refine fits_some ?_)
   ·obtain rfl:t=j:=by omega
    rw[List.drop_of_length_le (by have:=Hpl.out;omega)]at hwk
    have HR3:=Lib.hid (show r=(worth,0)by rw[HE2.out,<-hwk];rfl)
    have HR:=Lib.hid hR
    clear hwk hR hK
    go_wp2
    go_ret2
    exact⟨by rw[HR3.out];rfl,HR.out.bel⟩
end Go.Proofs.YtlclnbhjjdcnkaaGreatDoor.C
