/- Peel: what a proof of three places proves (under), walked. -/
import Derived.Test.YtednconodjeniaaGreatPlB
namespace Go.Proofs.YtednconodjeniaaGreat.P
open Go.RowKit Go.Shelf
set_option maxRecDepth 100000 in
set_option maxHeartbeats 16000000 in
theorem proves_1(T:Nat)(A E:Option Addr)(n c ce:Nat)(xs:List Int)(es:List Rg)(pa pb pc:Nat)(w:World)(hL:Lat w T A E n c ce xs es)(hok:LogOk n xs es)(h1:pa<pb)(h2:pb<pc)(h3:pc<n):
 Calls Tryz.prog 106 #[.pointer (some ⟨T,0,none⟩),pv ⟨pa,pb,pc,1⟩] w λe w'=>e=.returned (qv (prQ xs es ⟨pa,pb,pc,1⟩))/\Below w.heap.size w w':=by
 have hab:pa<n/\pb<n/\pc<n:=by omega
 obtain⟨ab,ao,eb,eo,rfl,rfl⟩:=hL.parts hok.n2
 have HV:=Lib.hid (show VX w (((w.alloc (.cells #[.int .i64 (pa:Nat),.int .i64 (pb:Nat),.int .i64 (pc:Nat),.int .i64 1] 120)).alloc (.cells #[.int .i64 0,.int .i64 0] 59)).alloc (.cells #[.int .i64 (pa:Nat),.int .i64 (pb:Nat),.int .i64 (pc:Nat)] 198)) ⟨pa,pb,pc,1⟩ T _ _ n c ce xs es from
  ⟨balloc (balloc (balloc (brefl w) _) _) _,((Blk.new w _ _).alloc _).alloc _,by
    have:=(Blk.new (w.alloc (.cells #[.int .i64 (pa:Nat),.int .i64 (pb:Nat),.int .i64 (pc:Nat),.int .i64 1] 120)) 59 #[.int .i64 0,.int .i64 0]).alloc (.cells #[.int .i64 (pa:Nat),.int .i64 (pb:Nat),.int .i64 (pc:Nat)] 198)
    rwa[World.size_alloc]at this,by
    have:=Blk.new ((w.alloc (.cells #[.int .i64 (pa:Nat),.int .i64 (pb:Nat),.int .i64 (pc:Nat),.int .i64 1] 120)).alloc (.cells #[.int .i64 0,.int .i64 0] 59)) 198 #[.int .i64 (pa:Nat),.int .i64 (pb:Nat),.int .i64 (pc:Nat)]
    rwa[World.size_alloc,World.size_alloc]at this,hL.later (balloc (balloc (balloc (brefl w) _) _) _)⟩)
 obtain⟨t0,t1,t2⟩:=hL.cells
 have i0:(0:Int)<=(pb:Int):=by omega
 have i1:(pb:Int)<(n:Int):=by omega
 have HL:=Lib.hid hL
 clear hL
 go_enter Tryz.func106,Tryz.ntmps106
 go_wp2_with fail
 clear t0 t1 t2
 refine dag 10 (by kernel_rfl) (by kernel_rfl) (.is ?_::.is ?_::.is ?_::.is ?_::.is ?_::.is ?_::.is ?_::.is ?_::.is ?_::.like (NewR (w.heap.size+1+1))::[]) rfl ?sta ?oba
 case sta=>repeat (first|exact stab_nil|refine stab_is ?_|refine stab_like (NewR.stab _) ?_)
 case oba=>
 intro env V hG
 have hV:=HV.out.later hG
 have HV1:=Lib.hid hV
 obtain⟨t0,t1,t2⟩:=hV.lat.cells
 obtain⟨e2,e0,e1⟩:=hV.lat.ecell hab.2.1
 have p0:V.cell? ⟨w.heap.size,1,none⟩=some (.int .i64 (pb:Nat)):=hV.b0.cell 1
 have p1:=hV.b0.lt
 have hlt:w.heap.size+1+1<V.heap.size:=by have:=hG.size;simp at this;omega
 clear hV
 iterate 9 (refine obls_is ?_ ?_;unfold doesAt;go_simp;(try go_bits);(first|(refine⟨brefl _,?_⟩;rfl)|rfl);intro K hK;go_simp;refine hK _ ?_;clear hK K)
 refine obls_like (λ_=>?_) ?_
 ·unfold doesAt
  go_simp
  exact⟨balloc (brefl _) _,_,rfl,hlt,Blk.new _ _ _⟩
 intro K hK
 go_simp
 refine hK _ ?_
 clear hK K
 refine obls_last (λhok=>?_)
 obtain⟨g,hg,hgl,hgb⟩:=hok 9 _ rfl
 change env 9=_ at hg
 rw[hg]
 have g0:=hgb.lt
 have g1:=hgb.frozen 0
 have g2:=hgb.frozen 1
 have g3:V.cell? ⟨g,0,none⟩=some (.int .i64 0):=hgb.cell 0
 have g4:V.cell? ⟨g,1,none⟩=some (.int .i64 0):=hgb.cell 1
 unfold doesAt
 go_simp
 have HV2:=Lib.hid ((HV1.out.set HL.out (g:=g) (by omega) 0 (.int .i64 (eAt es pb).lo)).set HL.out (g:=g) (by omega) 1 (.int .i64 (eAt es pb).hi))
 have HG:=Lib.hid (show Blk ((V.setCell ⟨g,0,none⟩ (.int .i64 (eAt es pb).lo)).setCell ⟨g,1,none⟩ (.int .i64 (eAt es pb).hi)) g 36 #[.int .i64 (eAt es pb).lo,.int .i64 (eAt es pb).hi]from(hgb.set 0 (.int .i64 (eAt es pb).lo)).set 1 (.int .i64 (eAt es pb).hi))
 have Hgl:=Lib.hid hgl
 obtain⟨W3,hW3⟩:∃W3,(V.setCell ⟨g,0,none⟩ (.int .i64 (eAt es pb).lo)).setCell ⟨g,1,none⟩ (.int .i64 (eAt es pb).hi)=W3:=⟨_,rfl⟩
 rw[hW3]at HV2 HG ⊢
 clear hG hg hgb HV HV1 t0 t1 t2 e0 e1 e2 p0 p1 g0 g1 g2 g3 g4 hlt hok hW3 hgl
 clear V
 have q0:W3.cell? ⟨w.heap.size,0,none⟩=some (.int .i64 (pa:Nat)):=HV2.out.b0.cell 0
 have q1:W3.cell? ⟨w.heap.size,1,none⟩=some (.int .i64 (pb:Nat)):=HV2.out.b0.cell 1
 have q2:W3.cell? ⟨w.heap.size,2,none⟩=some (.int .i64 (pc:Nat)):=HV2.out.b0.cell 2
 have q3:W3.cell? ⟨w.heap.size,3,none⟩=some (.int .i64 1):=HV2.out.b0.cell 3
 have q4:=HV2.out.b0.lt
 have q5:W3.cell? ⟨w.heap.size+1+1,0,none⟩=some (.int .i64 (pa:Nat)):=HV2.out.b2.cell 0
 have q6:W3.cell? ⟨w.heap.size+1+1,1,none⟩=some (.int .i64 (pb:Nat)):=HV2.out.b2.cell 1
 have q7:W3.cell? ⟨w.heap.size+1+1,2,none⟩=some (.int .i64 (pc:Nat)):=HV2.out.b2.cell 2
 have q8:=HV2.out.b2.lt
 have d1:¬(pc=0):=by omega
 have d2:¬(pa=pc):=by omega
 have k3:=places_eq (pa:Nat) (pb:Nat) (pc:Nat) false (by simp;omega)
 go_wp2_with fail
 clear q0 q1 q2 q3 q4 q5 q6 q7 q8 d1 d2 k3
 have xa:0<=xAt xs pa/\xAt xs pa<=100:=hok.x hab.1
 have xb:0<=xAt xs pb/\xAt xs pb<=100:=hok.x hab.2.1
 have xc:0<=xAt xs pc/\xAt xs pc<=100:=hok.x hab.2.2
 have xab:xAt xs pa<xAt xs pb:=hok.lt h1 hab.2.1
 have xbc:xAt xs pb<xAt xs pc:=hok.lt h2 hab.2.2
 have ya:-1000<=(eAt es pa).lo/\(eAt es pa).lo<=(eAt es pa).hi/\(eAt es pa).hi<=1000:=hok.e hab.1
 have yb:-1000<=(eAt es pb).lo/\(eAt es pb).lo<=(eAt es pb).hi/\(eAt es pb).hi<=1000:=hok.e hab.2.1
 have yc:-1000<=(eAt es pc).lo/\(eAt es pc).lo<=(eAt es pc).hi/\(eAt es pc).hi<=1000:=hok.e hab.2.2
 obtain⟨lf,hlf⟩:∃z,xAt xs pb-xAt xs pa=z:=⟨_,rfl⟩
 obtain⟨rt,hrt⟩:∃z,xAt xs pc-xAt xs pb=z:=⟨_,rfl⟩
 have hlr:(1<=lf/\lf<=100)/\(1<=rt/\rt<=100)/\lf+rt<=100:=by omega
 obtain⟨wd,hwd⟩:∃z,lf+rt=z:=⟨_,rfl⟩
 obtain⟨de,hde⟩:∃z,2*wd=z:=⟨_,rfl⟩
 have k1:IntKind.i64.wrap (xAt xs pb-xAt xs pa)=lf:=by rw[IntKind.wrap_i64];omega
 have k2:IntKind.i64.wrap (xAt xs pc-xAt xs pb)=rt:=by rw[IntKind.wrap_i64];omega
 have k4:IntKind.i64.wrap (lf+rt)=wd:=by rw[IntKind.wrap_i64];omega
 have k5:IntKind.i64.wrap (2*wd)=de:=by rw[IntKind.wrap_i64];omega
 obtain⟨d1,hd1⟩:∃z,(eAt es pb).hi-(eAt es pa).lo=z:=⟨_,rfl⟩
 obtain⟨d2,hd2⟩:∃z,(eAt es pb).hi-(eAt es pc).lo=z:=⟨_,rfl⟩
 have k6:IntKind.i64.wrap ((eAt es pb).hi-(eAt es pa).lo)=d1:=by rw[IntKind.wrap_i64];omega
 have k7:IntKind.i64.wrap ((eAt es pb).hi-(eAt es pc).lo)=d2:=by rw[IntKind.wrap_i64];omega
 obtain⟨l1,b1⟩:=mul_small (a:=d1) (b:=rt) (by omega) (by omega)
 obtain⟨l2,b2⟩:=mul_small (a:=d2) (b:=lf) (by omega) (by omega)
 have hn1:numV xs es ⟨pa,pb,pc,1⟩=d1*rt+d2*lf:=by simp[numV,hd1,hd2,hrt,hlf]
 have he1:denV xs ⟨pa,pb,pc,1⟩=de:=by simp[denV,hrt,hlf,hwd,hde]
 obtain⟨c1,hc1⟩:∃z,d1*rt=z:=⟨_,rfl⟩
 obtain⟨c2,hc2⟩:∃z,d2*lf=z:=⟨_,rfl⟩
 replace l1:=l1.trans hc1
 replace l2:=l2.trans hc2
 rw[hc1,hc2]at hn1
 rw[hc1]at b1
 rw[hc2]at b2
 obtain⟨nu,hnu⟩:∃z,c1+c2=z:=⟨_,rfl⟩
 have l5:IntKind.i64.wrap (c1+c2)=nu:=by rw[IntKind.wrap_i64];omega
 rw[hnu]at hn1
 obtain⟨z,hz⟩:∃z,byQ nu de=z:=⟨_,rfl⟩
 have Hq:=Lib.hid (show prQ xs es ⟨pa,pb,pc,1⟩=z by unfold prQ;rw[hn1,he1,hz])
 have Hz:=Lib.hid hz
 have Hn:=Lib.hid (show-1000000000<=nu/\nu<=1000000000 by omega)
 have Hde:=Lib.hid (show 0<de/\de<=1000000000 by omega)
 have HK:=Lib.hid (And.intro k4 (And.intro k5 (And.intro k6 (And.intro k7 (And.intro l1 (And.intro l2 l5))))))
 have i2:(0:Int)<=(pa:Int):=by omega
 have i3:(pa:Int)<(n:Int):=by omega
 have i4:(0:Int)<=(pc:Int):=by omega
 have i5:(pc:Int)<(n:Int):=by omega
 clear hlf hrt hd1 hd2 hn1 he1 b1 b2 xab xbc ya yb yc xa xb xc hlr hc1 hc2 hz hnu hde hwd k4 k5 k6 k7 l1 l2 l5
 refine dag 40 (by kernel_rfl) (by kernel_rfl) (.is ?_::.is ?_::.is ?_::.is ?_::.is ?_::.is ?_::.is ?_::.is ?_::.is ?_::.is ?_::.is ?_::.is ?_::.is ?_::.is ?_::.is ?_::.is ?_::.is ?_::.is ?_::.is ?_::.is ?_::.is ?_::.is ?_::.is ?_::.is ?_::.is ?_::.is ?_::.is ?_::.is ?_::.is ?_::.is ?_::.is ?_::.is ?_::.is ?_::.is ?_::.is ?_::.is ?_::.is ?_::.is ?_::.is ?_::.is ?_::[]) rfl ?stb ?obb
 case stb=>simp[Spec.ok]
 case obb=>
 intro env V hG
 have hV:=HV2.out.later hG
 have HV3:=Lib.hid hV
 have HG3:=Lib.hid (HG.out.later hG)
 obtain⟨u0,u1,u2⟩:=hV.lat.ecell hab.1
 obtain⟨_,u3,u4⟩:=hV.lat.ecell hab.2.2
 obtain⟨t0,t1,t2⟩:=hV.lat.cells
 obtain⟨ea,e0⟩:=hV.lat.xcell hab.1
 obtain⟨_,e1⟩:=hV.lat.xcell hab.2.1
 obtain⟨_,e2⟩:=hV.lat.xcell hab.2.2
 have q0:V.cell? ⟨w.heap.size,0,none⟩=some (.int .i64 (pa:Nat)):=hV.b0.cell 0
 have q1:V.cell? ⟨w.heap.size,1,none⟩=some (.int .i64 (pb:Nat)):=hV.b0.cell 1
 have q2:V.cell? ⟨w.heap.size,2,none⟩=some (.int .i64 (pc:Nat)):=hV.b0.cell 2
 have q4:=hV.b0.lt
 clear hV hG
 iterate 40 (refine obls_is ?_ ?_;unfold doesAt;go_simp;(try go_bits);(first|(refine⟨brefl _,?_⟩;rfl)|rfl);intro K hK;go_simp;refine hK _ ?_;clear hK K)
 refine obls_nil (λhx=>?_)
 clear hx
 go_wp2_with fail
 clear HV2 HG e0 e1 e2 ea k1 k2 h1 h2 h3 hok hab i0 i1 q1 HL Hgl
 go_cut [9,10]from 81 (λs9 s10 wx=>∃p q:Nat,s9=.pointer (some ⟨p,0,none⟩)/\s10=.pointer (some ⟨q,0,none⟩)/\RX V wx p q (eAt es pa) (eAt es pc))
 case first=>
  go_region
  all_goals
   go_wp2_with fail
   go_meet
   case rel=>first|exact⟨_,_,rfl,rfl,rx_a V _ _⟩|exact⟨_,_,rfl,rfl,rx_b V _ _⟩
 case rest=>
 obtain⟨p,q,rfl,rfl,hX⟩:=hcut
 have hV5:=HV3.out.later hX.bel
 have a0:wc.cell? ⟨w.heap.size,3,none⟩=some (.int .i64 1):=hV5.b0.cell 3
 have a1:=hV5.b0.lt
 have f0:wc.cell? ⟨g,0,none⟩=some (.int .i64 (eAt es pb).lo):=(HG3.out.later hX.bel).cell 0
 have f1:wc.cell? ⟨g,1,none⟩=some (.int .i64 (eAt es pb).hi):=(HG3.out.later hX.bel).cell 1
 have f2:=(HG3.out.later hX.bel).lt
 have f3:wc.cell? ⟨p,0,none⟩=some (.int .i64 (eAt es pa).lo):=hX.bp.cell 0
 have f4:wc.cell? ⟨p,1,none⟩=some (.int .i64 (eAt es pa).hi):=hX.bp.cell 1
 have f5:=hX.bp.lt
 have f6:wc.cell? ⟨q,0,none⟩=some (.int .i64 (eAt es pc).lo):=hX.bq.cell 0
 have f7:wc.cell? ⟨q,1,none⟩=some (.int .i64 (eAt es pc).hi):=hX.bq.cell 1
 have f8:=hX.bq.lt
 have HV5:=Lib.hid hV5
 clear hX hV5 u0 u1 u2 u3 u4 t0 t1 t2 q0 q2 q4 HV3 HG3
 obtain⟨k4,k5,k6,k7,l1,l2,l5⟩:=HK.out
 go_wp2_with fail
 refine(by_any nu de _ Hn.out Hde.out).mono ?_
 rintro e W6⟨rfl,hb⟩
 have HV6:=Lib.hid (HV5.out.later hb)
 clear hb HV5 a0 a1 f0 f1 f2 f3 f4 f5 f6 f7 f8 k4 k5 k6 k7 l1 l2 l5
 have c0:W6.cell? ⟨w.heap.size+1,0,none⟩=some (.int .i64 0):=HV6.out.b1.cell 0
 have c1:W6.cell? ⟨w.heap.size+1,1,none⟩=some (.int .i64 0):=HV6.out.b1.cell 1
 have c2:=HV6.out.b1.lt
 have c3:=HV6.out.b1.frozen 0
 have c4:=HV6.out.b1.frozen 1
 rw[Hz.out]
 go_wp2
 refine bodyPost_ret (v:=qv z) (by simp[results,Tryz.results106,go_sem,c0,c1]) rfl ⟨by rw[<-Hq.out],bset (bset HV6.out.bel (p:=⟨w.heap.size+1,0,none⟩) (by simp) _) (p:=⟨w.heap.size+1,1,none⟩) (by simp) _⟩
end Go.Proofs.YtednconodjeniaaGreat.P
