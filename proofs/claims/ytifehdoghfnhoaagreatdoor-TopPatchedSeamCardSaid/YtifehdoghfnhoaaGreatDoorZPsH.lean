/- The document's check of a sheet, of sheets that are right. -/
import Derived.Test.YtifehdoghfnhoaaGreatDoorZPbN
namespace Go.Proofs.YtifehdoghfnhoaaGreatDoor.Pa
open Go.RowKit Go.Shelf Go.PlainAid Go.Proofs.YtifehdoghfnhoaaGreatDoor.C
theorem info_rcell:(Tryz.prog.info? 32).map (λi=>(i.zero,i.size,i.bytes))=some (some (.agg #[.int .i64 0,.int .i64 0]),2,16):=by kernel_rfl
theorem und_rcells:Tryz.prog.underlying 26=some (.slice 32):=by kernel_rfl
structure KW(w W:World)(RA:Option Addr)(rn rc most:Nat)(rows:List ByteArray)(v:Value)(ks:List (Nat×Nat)):Prop where
 bel:Below w.heap.size w W
 b0:Blk W w.heap.size 24 #[.slice RA rn rc,.int .i64 (most:Nat)]
 sl:Sl 1 encB8 w w.heap.size RA rn rc rows
 own:W.ownsRow (w.heap.size+1) 32 2 v ks.length (ks.flatMap encCl)
section
variable{w W W':World}{RA:Option Addr}{rn rc most:Nat}{rows:List ByteArray}{v v':Value}{ks:List (Nat×Nat)}
theorem KW.later(h:KW w W RA rn rc most rows v ks)(hb:Below W.heap.size W W'):KW w W' RA rn rc most rows v ks:=⟨Below.later h.bel hb,h.b0.later hb,h.sl,owL h.own hb⟩
theorem KW.cells(h:KW w W RA rn rc most rows v ks):W.cell? ⟨w.heap.size,0,none⟩=some (.slice RA rn rc)/\W.cell? ⟨w.heap.size,1,none⟩=some (.int .i64 (most:Nat))/\w.heap.size<W.heap.size:=⟨h.b0.cell 0,h.b0.cell 1,h.b0.lt⟩
theorem KW.app(h:KW w W RA rn rc most rows v ks){x:Nat×Nat}(hg:W.grownBy W' v.ownBlock)(ho:W'.ownsRow (w.heap.size+1) 32 2 v' (ks.length+1) (ks.flatMap encCl++encCl x)):KW w W' RA rn rc most rows v' (ks++[x]):=by
 have hb:=own_base h.own
 refine⟨below_row h.bel hg (λg hg'=>by have:=hb g hg';omega) h.bel.size,h.b0.grown hg (λe=>by have:=hb _ e;omega),h.sl,?_⟩
 simpa[encCl]using ho
end
set_option maxRecDepth 100000 in
set_option maxHeartbeats 8000000 in
theorem knots_ok(RA:Option Addr)(rn rc most cn:Nat)(rows:List ByteArray)(w:World)(hs:Sl 1 encB8 w w.heap.size RA rn rc rows)(hr6:rn<=6)(hsz:∀s∈rows,s.size=cn)(hc6:cn<=6):
 Calls Tryz.prog 6 #[.agg #[.slice RA rn rc,.int .i64 (most:Nat)]] w λe w'=>∃A c,e=.returned (.slice A (knN (atB rows 111) cn rn 0).length c)/\Below w.heap.size w w'/\Sl 2 encCl w' w'.heap.size A (knN (atB rows 111) cn rn 0).length c (knN (atB rows 111) cn rn 0):=by
 have HK0:=Lib.hid (show KW w (w.alloc (.cells #[.slice RA rn rc,.int .i64 (most:Nat)] 24)) RA rn rc most rows (.slice none 0 0) (knN (atB rows 111) cn 0 0)from⟨balloc (brefl w) _,Blk.new w _ _,hs,World.ownsRow_nil _ _ _ _⟩)
 have Hsz:=Lib.hid hsz
 have H6:=Lib.hid (show rn<=6/\cn<=6 from⟨hr6,hc6⟩)
 have hrl:=hs.len
 have hrc:=hs.cap
 clear hs hsz hr6 hc6
 go_enter Tryz.func6,Tryz.ntmps6
 go_wp2_with fail
 refine lpn (λq a W=>a.defers=[]/\∃(i:Nat)(v:Value),i+q=rn/\KW w W RA rn rc most rows v (knN (atB rows 111) cn i 0)/\Fits (none::some (.pointer (some ⟨w.heap.size,0,none⟩))::none::some (v)::some (.int .i64 (i:Nat))::none::none::none::none::none::none::none::none::none::none::none::none::none::none::none::none::none::none::none::none::none::none::none::none::none::none::none::none::none::none::none::none::none::[]) a.tmps.toList) rn ?_ ?_
 ·refine⟨rfl,0,.slice none 0 0,by omega,HK0.out,?_⟩
  repeat (first|exact ftL|refine ftN ?_|refine ftS ?_)
 clear HK0
 intro q a W hI K1 hK
 obtain⟨hds,i,v,hiq,hW,hfit⟩:=hI
 obtain⟨f',hf'⟩:=ftA hfit
 rw[hds]at hf'
 subst hf'
 clear hfit hds
 simp only[fillP,Nat.reduceAdd]
 have HW:=Lib.hid hW
 have HK:=Lib.hid (@hK)
 clear hW hK
 obtain⟨c0,c1,c2⟩:=HW.out.cells
 by_cases hlt:i<rn
 ·have i1:(i:Int)<(rn:Int):=by omega
  have i2:(0:Int)<=(i:Int):=by omega
  have i3:IntKind.i64.wrap ((i:Int)+1)=((i+1:Nat):Int):=by rw[IntKind.wrap_i64];have:=H6.out;omega
  have Hi:=Lib.hid (show i+q=rn/\i<rn from⟨hiq,hlt⟩)
  clear hiq
  go_wp2_with fail
  clear c0 c1 c2
  refine lpn (λq2 a2 W2=>a2.defers=[]/\∃(k:Nat)(v2:Value),k+q2=cn/\KW w W2 RA rn rc most rows v2 (knN (atB rows 111) cn i k)/\Fits (none::some (.pointer (some ⟨w.heap.size,0,none⟩))::none::some (v2)::some (.int .i64 (i:Nat))::some (.int .i64 (k:Nat))::none::none::none::none::none::none::none::none::none::none::none::none::none::none::none::none::none::none::none::none::none::none::none::none::none::none::none::none::none::none::none::none::[]) a2.tmps.toList) cn ?_ ?_
  ·refine⟨rfl,0,v,by omega,HW.out,?_⟩
   repeat (first|exact ftL|refine ftN ?_|refine ftS ?_)
  clear HW
  clear W v
  intro q2 a2 W2 hI2 K2 hK2
  obtain⟨hds,k,v2,hkq,hW2,hfit⟩:=hI2
  obtain⟨f',hf'⟩:=ftA hfit
  rw[hds]at hf'
  subst hf'
  clear hfit hds
  simp only[fillP,Nat.reduceAdd]
  have HW2:=Lib.hid hW2
  have HK2:=Lib.hid (@hK2)
  obtain⟨b,o,s,rfl,hbb,hx,x0⟩:=ltB8 hW2.sl hlt
  have x0':=(hW2.bel.cell (p:=⟨b,o+i,none⟩) hbb).trans x0
  have hss:=Hsz.out s (List.mem_of_getElem? hx)
  have Hrow:=Lib.hid (show∀k,atB rows 111 i k=decide (bt s k=111)fromλk=>by unfold atB;rw[hx])
  clear hW2 hK2 x0 hx
  obtain⟨c0,c1,c2⟩:=HW2.out.cells
  by_cases hkl:k<cn
  ·have hks:k<s.size:=by rw[hss];exact hkl
   have hbt:=get_bt s
   have k1:(k:Int)<(cn:Int):=by omega
   have k1':(k:Int)<(s.size:Int):=by omega
   have k2:(0:Int)<=(k:Int):=by omega
   have k4:IntKind.i64.wrap ((k:Int)+1)=((k+1:Nat):Int):=by rw[IntKind.wrap_i64];have:=H6.out;omega
   have Hkq:=Lib.hid (show k+q2=cn/\k<cn from⟨hkq,hkl⟩)
   clear hkq
   by_cases ho:bt s k=111
   ·have hkl2:=knN_len (atB rows 111) cn i k
    have hkm:i*cn<=5*6:=Nat.mul_le_mul (by have:=Hi.out;have:=H6.out;omega) H6.out.2
    have Hkn:=Lib.hid (knN_yes (o:=atB rows 111) (cn:=cn) (i:=i) (k:=k) (by rw[Hrow.out,ho];rfl))
    obtain⟨ks,hks2⟩:∃ks,knN (atB rows 111) cn i k=ks:=⟨_,rfl⟩
    rw[hks2]at HW2 Hkn hkl2
    have Hkl:=Lib.hid (show ks.length<=40 by have:=H6.out;omega)
    obtain⟨i0,hi0,hz0,hz1,hz2⟩:=info_parts info_rcell
    have HPa:=Lib.hid (HW2.out.later (balloc (brefl W2) (.cells #[.int .i64 (i:Nat),.int .i64 (k:Nat)] 32)))
    have HVs:=Lib.hid (show w.heap.size+1<=W2.heap.size by omega)
    have HNw:=Lib.hid (two_new W2 (.int .i64 (i:Nat)) (.int .i64 (k:Nat)) 32)
    clear hks2 hkl2 hkm HW2
    go_wp2_with (at_builtin;refine wpList_append_own _ rfl _ _ 26 rfl (w.heap.size+1) 32 i0 (.agg #[.int .i64 0,.int .i64 0]) 2 16 und_rcells hi0 hz0 hz1 hz2 rfl (by decide) v2 ks.length _ rfl HPa.out.own ⟨W2.heap.size,0,none⟩ 1 1 [.int .i64 (i:Nat),.int .i64 (k:Nat)] rfl rfl HNw.out (by simp[Value.oneCell']) (by have:=Hkl.out;simp only[maxLen];omega) (by have:=Hkl.out;omega) (by have:=HVs.out;simp;omega) ?_;intro v' W3 hown' hgr _;have HP3:=Lib.hid (HPa.out.app (x:=(i,k)) hgr hown');clear hown' hgr)
    obtain⟨j1,j2⟩:=Hkq.out
    refine HK2.out _ _ (q2-1) (by omega) ⟨rfl,k+1,_,by omega,by rw[Hkn.out];exact HP3.out,?_⟩
    repeat (first|exact ftL|refine ftN ?_|refine ftS ?_)
   ·have n1:decide (bt s k=111)=false:=decide_eq_false ho
    have n2:(bt s k==111)=false:=beq_eq_false_iff_ne.2 ho
    have HP4:=Lib.hid (show KW w W2 (some ⟨b,o,none⟩) rn rc most rows v2 (knN (atB rows 111) cn i (k+1))by rw[knN_no (by rw[Hrow.out];exact n1)];exact HW2.out)
    clear HW2
    go_wp2_with fail
    obtain⟨j1,j2⟩:=Hkq.out
    refine HK2.out _ _ (q2-1) (by omega) ⟨rfl,k+1,_,by omega,HP4.out,?_⟩
    repeat (first|exact ftL|refine ftN ?_|refine ftS ?_)
  ·have hkc:k=cn:=by omega
   subst hkc
   have k1':¬((k:Int)<(s.size:Int)):=by omega
   have HP5:=Lib.hid (show KW w W2 (some ⟨b,o,none⟩) rn rc most rows v2 (knN (atB rows 111) k (i+1) 0)by rw[knN_row];exact HW2.out)
   clear HW2 hkq
   go_wp2_with fail
   obtain⟨j1,j2⟩:=Hi.out
   refine HK.out _ _ (q-1) (by omega) ⟨rfl,i+1,_,by omega,HP5.out,?_⟩
   repeat (first|exact ftL|refine ftN ?_|refine ftS ?_)
 ·have hir:i=rn:=by omega
  subst hir
  clear hiq hlt
  go_wp2_with fail
  go_ret
  obtain⟨A,c,rfl,hsl⟩:=own_slG (k:=2) (enc:=encCl) (λ_=>rfl) HW.out.own rfl
  exact⟨A,c,rfl,HW.out.bel,hsl⟩
end Go.Proofs.YtifehdoghfnhoaaGreatDoor.Pa
namespace Go.Proofs.YtifehdoghfnhoaaGreatDoor.Pa
open Go.RowKit Go.Shelf Go.PlainAid Go.Proofs.YtifehdoghfnhoaaGreatDoor.C
set_option maxRecDepth 100000 in
set_option maxHeartbeats 8000000 in
theorem refSheet_ok(RA:Option Addr)(rn rc most cn:Nat)(rows:List ByteArray)(w:World)(hs:Sl 1 encB8 w w.heap.size RA rn rc rows)(hok:ShOk rn cn most rows)(h10:(knN (atB rows 111) cn rn 0).length<=10)(hch:∀s∈rows,∀k,k<cn->bt s k=46\/bt s k=111):
 Calls Tryz.prog 21 #[.agg #[.slice RA rn rc,.int .i64 (most:Nat)]] w λe w'=>e=.returned (.int .i64 0)/\Below w.heap.size w w':=by
 have HK0:=Lib.hid (show OW w (w.alloc (.cells #[.slice RA rn rc,.int .i64 (most:Nat)] 24)) RA rn rc most rows from⟨balloc (brefl w) _,Blk.new w _ _,hs.later (balloc (brefl w) _)⟩)
 have HKn:=Lib.hid (λW(h:OW w W RA rn rc most rows)=>knots_ok RA rn rc most cn rows W h.sl hok.r6 hok.sz hok.c6)
 obtain⟨kl,hkl⟩:∃x,(knN (atB rows 111) cn rn 0).length=x:=⟨_,rfl⟩
 rw[hkl]at HKn h10
 have Hsz:=Lib.hid hok.sz
 have Hch:=Lib.hid hch
 have hr1:=hok.r1
 have hr6:=hok.r6
 have hc1:=hok.c1
 have hc6:=hok.c6
 have hm1:=hok.m1
 have hm36:=hok.m36
 have hrc:=hs.cap
 obtain⟨b0,o0,s0,rfl,hbb0,hx0,z0⟩:=ltB8 hs (show 0<rn by omega)
 rw[Nat.add_zero]at z0
 have hs0:=Hsz.out s0 (List.mem_of_getElem? hx0)
 have Hz0:=Lib.hid (λW(h:Below w.heap.size w W)=>And.intro ((h.cell (p:=⟨b0,o0,none⟩) hbb0).trans z0) (Nat.lt_of_lt_of_le hbb0 h.size))
 have g1:¬((rn:Int)<1):=by omega
 have g2:¬((6:Int)<(rn:Int)):=by omega
 have g3:¬((s0.size:Int)<1):=by omega
 have g4:¬((6:Int)<(s0.size:Int)):=by omega
 have g5:¬((most:Int)<1):=by omega
 have g6:¬((36:Int)<(most:Int)):=by omega
 have g7:¬((10:Int)<(kl:Int)):=by omega
 have g8:(0:Int)<(rn:Int):=by omega
 have g9:0<rn:=hr1
 have H6:=Lib.hid (show rn<=6/\cn<=6/\s0.size=cn from⟨hr6,hc6,hs0⟩)
 obtain⟨c0,c1,c2⟩:=HK0.out.cells
 obtain⟨d0,d1⟩:=Hz0.out _ HK0.out.bel
 clear hs hok h10 hch hkl hr1 hr6 hc1 hc6 hm1 hm36 hbb0 hx0 z0 hs0
 go_enter Tryz.func21,Tryz.ntmps21
 go_wp2_with fail
 refine lpn (λq a W=>a.defers=[]/\∃(i:Nat),i+q=rn/\OW w W (some ⟨b0,o0,none⟩) rn rc most rows/\Fits (none::some (.pointer (some ⟨w.heap.size,0,none⟩))::none::some (.int .i64 (rn:Nat))::some (.int .i64 (i:Nat))::none::none::none::none::none::none::none::none::none::none::none::none::none::none::none::none::none::none::none::none::none::none::none::none::none::none::none::none::none::none::none::none::none::none::none::none::none::none::none::none::none::none::none::none::none::none::none::none::none::none::none::none::none::none::none::none::none::none::none::none::none::none::none::none::none::none::none::none::none::none::none::none::none::none::none::none::none::none::none::none::none::none::none::none::none::none::none::none::none::none::none::[]) a.tmps.toList) rn ?_ ?_
 ·refine⟨rfl,0,by omega,HK0.out,?_⟩
  repeat (first|exact ftL|refine ftN ?_|refine ftS ?_)
 clear HK0 c0 c1 c2 d0 d1
 intro q a W hI K1 hK
 obtain⟨hds,i,hiq,hW,hfit⟩:=hI
 obtain⟨f',hf'⟩:=ftA hfit
 rw[hds]at hf'
 subst hf'
 clear hfit hds
 simp only[fillP,Nat.reduceAdd]
 have HW:=Lib.hid hW
 have HK:=Lib.hid (@hK)
 clear hW hK
 by_cases hlt:i<rn
 ·have i1:(i:Int)<(rn:Int):=by omega
  have i2:(0:Int)<=(i:Int):=by omega
  have i3:IntKind.i64.wrap ((i:Int)+1)=((i+1:Nat):Int):=by rw[IntKind.wrap_i64];have:=H6.out;omega
  have Hi:=Lib.hid (show i+q=rn/\i<rn from⟨hiq,hlt⟩)
  clear hiq
  obtain⟨b,o,s,hA,hbb,hx,x0⟩:=ltB8 HW.out.sl hlt
  cases hA
  have hss:=Hsz.out s (List.mem_of_getElem? hx)
  have heq:s.size=s0.size:=by rw[hss,H6.out.2.2]
  obtain⟨z,hz⟩:∃z,s.size=z:=⟨_,rfl⟩
  have e1:((s.size:Int) != (s0.size:Int))=false:=by rw[heq];simp
  have e2:(s.size:Int)=(s0.size:Int):=by rw[heq]
  have He2:=Lib.hid heq
  clear hss hx heq hz e2
  go_wp2_with fail
  refine dag 12 (by kernel_rfl) (by kernel_rfl) (.is ?_::.is ?_::.is ?_::.is ?_::.is ?_::.is ?_::.is ?_::.is ?_::.is ?_::.is ?_::.is ?_::.is ?_::[]) rfl ?st1 ?ob1
  case st1=>repeat (first|exact stab_nil|refine stab_is ?_)
  case ob1=>
  intro env V hG
  have HV:=Lib.hid (HW.out.later hG)
  obtain⟨c0,c1,c2⟩:=HV.out.cells
  obtain⟨d0,d1⟩:=Hz0.out _ HV.out.bel
  have y0:=(hG.cell (p:=⟨b0,o0+i,none⟩) hbb).trans x0
  iterate 12 (refine obI ?_ ?_;unfold dsA;go_simp;(try go_bits);(first|(refine⟨brefl _,?_⟩;rfl)|rfl);intro K hK;go_simp;refine hK _ ?_;clear hK K)
  refine obN (λhok=>?_)
  clear hok hG
  have e3:((s.size:Int) != (s0.size:Int))=false:=e1
  have e4:(s.size != s0.size)=false:=by rw[He2.out];simp
  have e5:s.size=s0.size:=He2.out
  go_wp2_with fail
  obtain⟨j1,j2⟩:=Hi.out
  refine HK.out _ _ (q-1) (by omega) ⟨rfl,i+1,by omega,HV.out,?_⟩
  repeat (first|exact ftL|refine ftN ?_|refine ftS ?_)
 ·have hie:i=rn:=by omega
  subst hie
  have HW0:=Lib.hid HW.out
  clear hiq hlt HK
  go_wp2_with fail
  refine lpn (λq a W=>a.defers=[]/\∃(j:Nat),j+q=i/\OW w W (some ⟨b0,o0,none⟩) i rc most rows/\Fits (none::some (.pointer (some ⟨w.heap.size,0,none⟩))::none::some (.int .i64 (i:Nat))::none::some (.int .i64 (j:Nat))::none::none::none::none::none::none::none::none::none::none::none::none::none::none::none::none::none::none::none::none::none::none::none::none::none::none::none::none::none::none::none::none::none::none::none::none::none::none::none::none::none::none::none::none::none::none::none::none::none::none::none::none::none::none::none::none::none::none::none::none::none::none::none::none::none::none::none::none::none::none::none::none::none::none::none::none::none::none::none::none::none::none::none::none::none::none::none::none::none::none::[]) a.tmps.toList) i ?_ ?_
  ·refine⟨rfl,0,by omega,HW0.out,?_⟩
   repeat (first|exact ftL|refine ftN ?_|refine ftS ?_)
  clear HW HW0
  clear W
  intro q a W hI K2 hK2
  obtain⟨hds,j,hjq,hW,hfit⟩:=hI
  obtain⟨f',hf'⟩:=ftA hfit
  rw[hds]at hf'
  subst hf'
  clear hfit hds
  simp only[fillP,Nat.reduceAdd]
  have HW:=Lib.hid hW
  have HK2:=Lib.hid (@hK2)
  clear hW hK2
  obtain⟨c0,c1,c2⟩:=HW.out.cells
  by_cases hlt:j<i
  ·have i1:(j:Int)<(i:Int):=by omega
   have i2:(0:Int)<=(j:Int):=by omega
   have i3:IntKind.i64.wrap ((j:Int)+1)=((j+1:Nat):Int):=by rw[IntKind.wrap_i64];have:=H6.out;omega
   have Hj:=Lib.hid (show j+q=i/\j<i from⟨hjq,hlt⟩)
   clear hjq
   go_wp2_with fail
   clear c0 c1 c2
   refine lpn (λq2 a W=>a.defers=[]/\∃(k:Nat),k+q2=cn/\OW w W (some ⟨b0,o0,none⟩) i rc most rows/\Fits (none::some (.pointer (some ⟨w.heap.size,0,none⟩))::none::some (.int .i64 (i:Nat))::none::some (.int .i64 (j:Nat))::some (.int .i64 (k:Nat))::none::none::none::none::none::none::none::none::none::none::none::none::none::none::none::none::none::none::none::none::none::none::none::none::none::none::none::none::none::none::none::none::none::none::none::none::none::none::none::none::none::none::none::none::none::none::none::none::none::none::none::none::none::none::none::none::none::none::none::none::none::none::none::none::none::none::none::none::none::none::none::none::none::none::none::none::none::none::none::none::none::none::none::none::none::none::none::none::none::[]) a.tmps.toList) cn ?_ ?_
   ·refine⟨rfl,0,by omega,HW.out,?_⟩
    repeat (first|exact ftL|refine ftN ?_|refine ftS ?_)
   clear HW
   clear W
   intro q2 a W hI K3 hK3
   obtain⟨hds,k,hkq,hW,hfit⟩:=hI
   obtain⟨f',hf'⟩:=ftA hfit
   rw[hds]at hf'
   subst hf'
   clear hfit hds
   simp only[fillP,Nat.reduceAdd]
   have HW:=Lib.hid hW
   have HK3:=Lib.hid (@hK3)
   clear hW hK3
   obtain⟨b,o,s,hA,hbb,hx,x0⟩:=ltB8 HW.out.sl hlt
   cases hA
   have hsm:=List.mem_of_getElem? hx
   have hss:=Hsz.out s hsm
   have Hcs:=Lib.hid (Hch.out s hsm)
   obtain⟨c0,c1,c2⟩:=HW.out.cells
   clear hx hsm
   by_cases hkl:k<cn
   ·have hks:k<s.size:=by rw[hss];exact hkl
    have hbt:=get_bt s
    have k1':(k:Int)<(s.size:Int):=by omega
    have k2:(0:Int)<=(k:Int):=by omega
    have k4:IntKind.i64.wrap ((k:Int)+1)=((k+1:Nat):Int):=by rw[IntKind.wrap_i64];have:=H6.out;omega
    have Hkq:=Lib.hid (show k+q2=cn/\k<cn from⟨hkq,hkl⟩)
    have hcc:=Hcs.out k hkl
    obtain⟨cb,hcb⟩:∃c,bt s k=c:=⟨_,rfl⟩
    rw[hcb]at hcc
    clear hkq hss
    rcases hcc with rfl|rfl
    ·go_wp2_with fail
     obtain⟨j1,j2⟩:=Hkq.out
     refine HK3.out _ _ (q2-1) (by omega) ⟨rfl,k+1,by omega,HW.out,?_⟩
     repeat (first|exact ftL|refine ftN ?_|refine ftS ?_)
    ·go_wp2_with fail
     obtain⟨j1,j2⟩:=Hkq.out
     refine HK3.out _ _ (q2-1) (by omega) ⟨rfl,k+1,by omega,HW.out,?_⟩
     repeat (first|exact ftL|refine ftN ?_|refine ftS ?_)
   ·have hkc:k=cn:=by omega
    have k1':¬((k:Int)<(s.size:Int)):=by omega
    clear hss hkc
    go_wp2_with fail
    obtain⟨j1,j2⟩:=Hj.out
    refine HK2.out _ _ (q-1) (by omega) ⟨rfl,j+1,by omega,HW.out,?_⟩
    repeat (first|exact ftL|refine ftN ?_|refine ftS ?_)
  ·have i1:¬((j:Int)<(i:Int)):=by omega
   clear hjq hlt HK2
   go_wp2_with fail
   refine(HKn.out W HW.out).mono ?_
   rintro e w3⟨A,c,rfl,hb3,_⟩
   have HB:=Lib.hid (Below.later HW.out.bel hb3)
   clear hb3 c0 c1 c2 HW
   go_wp2_with fail
   go_ret
   exact⟨rfl,HB.out⟩
end Go.Proofs.YtifehdoghfnhoaaGreatDoor.Pa
