/- The document's CheckRough, walked. -/
import Derived.Test.YtednconodjeniaaGreatPlT
import Derived.Test.YtednconodjeniaaGreatPlR
namespace Go.Proofs.YtednconodjeniaaGreat.P
open Go.RowKit Go.Shelf
def leB(ls hs:List Rg)(i:Nat):Bool:=decide ((eAt ls i).hi<=(eAt hs i).lo)
def roughE(n nl nh:Nat)(xs:List Int)(ls hs:List Rg):Int:=if placeE n nl nh xs ls hs=0 then(if(List.range n).all (leB ls hs)=true then 0 else 16)else placeE n nl nh xs ls hs
theorem roughE_zero{n nl nh:Nat}{xs:List Int}{ls hs:List Rg}(hx:xs.length=n)(hl:ls.length=nl)(hh:hs.length=nh)(h:roughE n nl nh xs ls hs=0):nl=n/\nh=n/\RoughOk n xs ls hs:=by
 unfold roughE at h
 split at h
 ·rename_i h0
  obtain⟨_,h1,h2,_,_⟩:=placeE_zero h0
  obtain rfl:=h1
  obtain rfl:=h2
  refine⟨rfl,rfl,?_⟩
  split at h
  ·rename_i h3
   obtain⟨h4,h5⟩:=rough_of hx hl hh h0
   refine⟨h4,h5,λi a b hi hj=>?_⟩
   have hin:i<nh:=by have:=(List.getElem?_eq_some_iff.1 hj).1;omega
   have h6:=List.all_eq_true.1 h3 i (List.mem_range.2 hin)
   unfold leB at h6
   rw[eat_of hi,eat_of hj]at h6
   simpa using h6
  ·cases h
 ·rename_i h0
  exact absurd h h0
theorem roughE_rule{n nl nh:Nat}{xs:List Int}{ls hs:List Rg}(h0:placeE n nl nh xs ls hs=0){i:Nat}(hi:i<n)(h:leB ls hs i=false):roughE n nl nh xs ls hs=16:=by
 unfold roughE
 rw[if_pos h0,if_neg]
 intro h2
 have:=List.all_eq_true.1 h2 i (List.mem_range.2 hi)
 rw[h]at this
 cases this
theorem roughE_ok{n nl nh:Nat}{xs:List Int}{ls hs:List Rg}(h0:placeE n nl nh xs ls hs=0)(h:∀i,i<n->leB ls hs i=true):roughE n nl nh xs ls hs=0:=by
 unfold roughE
 rw[if_pos h0,if_pos (List.all_eq_true.2 λi hi=>h i (List.mem_range.1 hi))]
set_option maxRecDepth 100000 in
set_option maxHeartbeats 4000000 in
theorem refRough_any(A L H:Option Addr)(n nl nh c cl ch:Nat)(xs:List Int)(ls hs:List Rg)(w:World)(ha:Sl 1 encI w w.heap.size A n c xs)(hl:Sl 2 encR w w.heap.size L nl cl ls)(hh:Sl 2 encR w w.heap.size H nh ch hs):
 Calls Tryz.prog 16 #[.agg #[.slice A n c,.slice L nl cl,.slice H nh ch]] w λe w'=>e=.returned (.int .i64 (roughE n nl nh xs ls hs))/\Below w.heap.size w w':=by
 have Hbel:=Lib.hid (balloc (brefl w) (.cells #[.slice A n c,.slice L nl cl,.slice H nh ch] 56))
 have Hp:=Lib.hid (λW(hb:Below w.heap.size w W)=>refPlaced_any A L H n nl nh c cl ch xs ls hs W (ha.later hb) (hl.later hb) (hh.later hb))
 have Hb:=Lib.hid (Blk.new w 56 #[.slice A n c,.slice L nl cl,.slice H nh ch])
 have Ha:=Lib.hid ha
 have Hl:=Lib.hid hl
 have Hh:=Lib.hid hh
 have Hz:=Lib.hid (λh=>placeE_zero (n:=n) (nl:=nl) (nh:=nh) (xs:=xs) (ls:=ls) (hs:=hs) h)
 have Hrule:=Lib.hid (λ(h:placeE n nl nh xs ls hs=0)(i:Nat)=>roughE_rule (i:=i) h)
 have Hfin:=Lib.hid (λ(h:placeE n nl nh xs ls hs=0)=>roughE_ok h)
 have Hbad:=Lib.hid (show placeE n nl nh xs ls hs≠0->roughE n nl nh xs ls hs=placeE n nl nh xs ls hs fromλh=>by unfold roughE;rw[if_neg h])
 obtain⟨z,hz⟩:∃z,placeE n nl nh xs ls hs=z:=⟨_,rfl⟩
 obtain⟨r,hr⟩:∃r,roughE n nl nh xs ls hs=r:=⟨_,rfl⟩
 rw[hz]at Hp Hz Hrule Hfin Hbad
 rw[hr]at Hrule Hfin Hbad ⊢
 clear ha hl hh hz hr
 go_enter Tryz.func16,Tryz.ntmps16
 go_wp2_with fail
 refine(Hp.out _ Hbel.out).mono ?_
 rintro e w1⟨rfl,hb⟩
 have HB1:=Lib.hid (Below.later Hbel.out hb)
 have HX1:=Lib.hid (Hb.out.later hb)
 have c0:w1.cell? ⟨w.heap.size,0,none⟩=some (.slice A n c):=HX1.out.cell 0
 have c1:w1.cell? ⟨w.heap.size,1,none⟩=some (.slice L nl cl):=HX1.out.cell 1
 have c2:w1.cell? ⟨w.heap.size,2,none⟩=some (.slice H nh ch):=HX1.out.cell 2
 have c3:=HX1.out.lt
 clear hb Hbel Hb
 by_cases hz:z=0
 case neg=>
  have h3:r=z:=Hbad.out hz
  subst h3
  clear Hrule Hfin Hbad Hz
  go_wp2_with fail
  refine(Hp.out _ HB1.out).mono ?_
  rintro e w2⟨rfl,hb⟩
  have HB2:=Lib.hid (Below.later HB1.out hb)
  clear hb c0 c1 c2 c3
  go_wp2
  go_ret
  exact⟨rfl,HB2.out⟩
 subst hz
 obtain⟨⟨hn2,hn8⟩,rfl,rfl,_,_⟩:=Hz.out rfl
 clear Hbad Hz Hp
 go_wp2_with fail
 refine loop_n (λq a W=>a.defers=[]/\∃i:Nat,i+q=nh/\Below w.heap.size w W/\Blk W w.heap.size 56 #[.slice A nh c,.slice L nh cl,.slice H nh ch]/\(∀j,j<i->leB ls hs j=true)/\Fits (none::some (.pointer (some ⟨w.heap.size,0,none⟩))::none::some (.int .i64 (i:Nat))::none::none::none::none::none::none::none::none::none::none::none::none::none::none::none::none::none::none::none::none::none::none::none::none::none::none::none::none::none::none::none::none::none::none::none::[]) a.tmps.toList) nh ?_ ?_
 ·refine⟨rfl,0,by omega,HB1.out,HX1.out,λj hj=>by omega,?_⟩
  repeat (first|exact fits_nil|refine fits_none ?_|refine fits_some ?_)
 clear HB1 HX1 c0 c1 c2 c3
 intro q a W hI K1 hK
 obtain⟨hds,i,hiq,hB,hX,hle,hfit⟩:=hI
 obtain⟨f',hf'⟩:=fits_act hfit
 rw[hds]at hf'
 subst hf'
 clear hfit hds
 simp only[fillP,Nat.reduceAdd]
 have HB:=Lib.hid hB
 have HX:=Lib.hid hX
 have Hle:=Lib.hid hle
 have b0:W.cell? ⟨w.heap.size,0,none⟩=some (.slice A nh c):=hX.cell 0
 have b1:W.cell? ⟨w.heap.size,1,none⟩=some (.slice L nh cl):=hX.cell 1
 have b2:W.cell? ⟨w.heap.size,2,none⟩=some (.slice H nh ch):=hX.cell 2
 have b3:=hX.lt
 by_cases hlt:i<nh
 ·obtain⟨lb,lo,x,rfl,hlb,hx,l0,l1⟩:=(Hl.out.later hB).ltR hlt
  obtain⟨ub,uo,y,rfl,hub,hy,u0,u1⟩:=(Hh.out.later hB).ltR hlt
  have Hlb:=Lib.hid (show leB ls hs i=decide (x.hi<=y.lo)by unfold leB;rw[eat_of hx,eat_of hy])
  have i1:(i:Int)<(nh:Int):=by omega
  have i2:(0:Int)<=(i:Int):=by omega
  have i3:IntKind.i64.wrap ((i:Int)+1)=(i:Int)+1:=by rw[IntKind.wrap_i64];omega
  have Hr16:=Lib.hid (Hrule.out trivial i hlt)
  clear hx hy hB hX hle
  go_wp2_with fail
  clear b0 b1 b2 b3
  refine dag 13 (by kernel_rfl) (by kernel_rfl) (.is ?_::.is ?_::.is ?_::.is ?_::.is ?_::.is ?_::.is ?_::.is ?_::.is ?_::.is ?_::.is ?_::.is ?_::.is ?_::[]) rfl ?sta ?oba
  case sta=>simp[Spec.ok]
  case oba=>
  intro env V hG
  have hWV:Below W.heap.size W V:=Below.later (brefl W) hG
  have d1:V.cell? ⟨w.heap.size,1,none⟩=some (.slice (some ⟨lb,lo,none⟩) nh cl):=(HX.out.later hWV).cell 1
  have d2:V.cell? ⟨w.heap.size,2,none⟩=some (.slice (some ⟨ub,uo,none⟩) nh ch):=(HX.out.later hWV).cell 2
  have d3:=(HX.out.later hWV).lt
  have d4:V.cell? ⟨ub,uo+i*2,none⟩=some (.int .i64 y.lo):=(hWV.cell (p:=⟨ub,uo+i*2,none⟩) hub).trans u0
  have d5:ub<V.heap.size:=Nat.lt_of_lt_of_le hub hWV.size
  have d6:V.cell? ⟨lb,lo+i*2+1,none⟩=some (.int .i64 x.hi):=(hWV.cell (p:=⟨lb,lo+i*2+1,none⟩) hlb).trans l1
  have d7:lb<V.heap.size:=Nat.lt_of_lt_of_le hlb hWV.size
  have HB3:=Lib.hid (Below.later HB.out hWV)
  have HX3:=Lib.hid (HX.out.later hWV)
  clear hWV hG
  iterate 13 (refine obls_is ?_ ?_;unfold doesAt;go_simp;(try go_bits);(first|(refine⟨brefl _,?_⟩;rfl)|rfl);intro K hK;go_simp;refine hK _ ?_;clear hK K)
  refine obls_nil (λhx=>?_)
  clear hx d1 d2 d3 d4 d5 d6 d7 hlb hub l0 l1 u0 u1
  by_cases h1:y.lo<x.hi
  ·have k1:decide (y.lo<x.hi)=true:=by simpa using h1
   have H3:=Lib.hid (Hr16.out (by rw[Hlb.out];simp;omega))
   go_wp2
   go_ret
   exact⟨ret_int H3.out.symm,HB3.out⟩
  ·have k1:decide (y.lo<x.hi)=false:=by simpa using h1
   have H3:=Lib.hid (show leB ls hs i=true by rw[Hlb.out];simp;omega)
   go_wp2
   refine hK _ _ (q-1) (by omega) ⟨rfl,i+1,by omega,HB3.out,HX3.out,λj hj=>by
    rcases Nat.lt_succ_iff_lt_or_eq.1 hj with h|rfl
    ·exact Hle.out j h
    ·exact H3.out,?_⟩
   repeat (first|exact fits_nil|refine fits_none ?_|refine fits_some ?_)
 obtain rfl:i=nh:=by omega
 have H3:=Lib.hid (Hfin.out trivial Hle.out)
 clear hK hB hX hle hlt
 go_wp2
 go_ret
 exact⟨ret_int H3.out.symm,HB.out⟩
end Go.Proofs.YtednconodjeniaaGreat.P
