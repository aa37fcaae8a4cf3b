/- Peel: what a proof proves, walked. -/
import Derived.Test.YtednconodjeniaaGreatPlF
namespace Go.Proofs.YtednconodjeniaaGreat.P
open Go.RowKit Go.Shelf
theorem Lat.xcell{W:World}{T:Nat}{ab ao:Nat}{E:Option Addr}{n c ce:Nat}{xs:List Int}{es:List Rg}(h:Lat W T (some ⟨ab,ao,none⟩) E n c ce xs es){i:Nat}(hi:i<n):ab<W.heap.size/\W.cell? ⟨ab,ao+i,none⟩=some (.int .i64 (xAt xs i)):=by
 obtain⟨b,o,x,hA,hb,hx,f0⟩:=h.at_.ltI hi
 cases hA
 exact⟨hb,by rw[f0];simp[xAt,hx]⟩
theorem Lat.ecell{W:World}{T:Nat}{eb eo:Nat}{A:Option Addr}{n c ce:Nat}{xs:List Int}{es:List Rg}(h:Lat W T A (some ⟨eb,eo,none⟩) n c ce xs es){i:Nat}(hi:i<n):
 eb<W.heap.size/\W.cell? ⟨eb,eo+i*2,none⟩=some (.int .i64 (eAt es i).lo)/\W.cell? ⟨eb,eo+i*2+1,none⟩=some (.int .i64 (eAt es i).hi):=by
 obtain⟨b,o,x,hA,hb,hx,f0,f1⟩:=h.ed.ltR hi
 cases hA
 exact⟨hb,by rw[f0];simp[eAt,hx],by rw[f1];simp[eAt,hx]⟩
theorem Lat.parts{W:World}{T:Nat}{A E:Option Addr}{n c ce:Nat}{xs:List Int}{es:List Rg}(h:Lat W T A E n c ce xs es)(hn:2<=n):∃ab ao eb eo,A=some ⟨ab,ao,none⟩/\E=some ⟨eb,eo,none⟩:=by
 obtain⟨b,o,x,hA,_⟩:=h.at_.ltI (i:=0) (by omega)
 obtain⟨b',o',x',hE,_⟩:=h.ed.ltR (i:=0) (by omega)
 exact⟨b,o,b',o',hA,hE⟩
structure VX(w W:World)(p:Pr)(T:Nat)(A E:Option Addr)(n c ce:Nat)(xs:List Int)(es:List Rg):Prop where
 bel:Below w.heap.size w W
 b0:Blk W w.heap.size 120 #[.int .i64 (p.a:Nat),.int .i64 (p.b:Nat),.int .i64 (p.c:Nat),.int .i64 p.s]
 b1:Blk W (w.heap.size+1) 59 #[.int .i64 0,.int .i64 0]
 b2:Blk W (w.heap.size+1+1) 198 #[.int .i64 (p.a:Nat),.int .i64 (p.b:Nat),.int .i64 (p.c:Nat)]
 lat:Lat W T A E n c ce xs es
theorem VX.later{w W W':World}{p:Pr}{T:Nat}{A E:Option Addr}{n c ce:Nat}{xs:List Int}{es:List Rg}(h:VX w W p T A E n c ce xs es)(hb:Below W.heap.size W W'):VX w W' p T A E n c ce xs es:=⟨Below.later h.bel hb,h.b0.later hb,h.b1.later hb,h.b2.later hb,h.lat.later hb⟩
theorem VX.set{w W:World}{p:Pr}{T:Nat}{A E:Option Addr}{n c ce:Nat}{xs:List Int}{es:List Rg}(h:VX w W p T A E n c ce xs es)(hL:Lat w T A E n c ce xs es){g:Nat}(hg:w.heap.size+1+1<g)(k:Nat)(v:Value):VX w (W.setCell ⟨g,k,none⟩ v) p T A E n c ce xs es:=by
 have hb:=bset h.bel (p:=⟨g,k,none⟩) (by show _<=g;omega) v
 exact⟨hb,h.b0.other (by show g≠_;omega) _,h.b1.other (by show g≠_;omega) _,h.b2.other (by show g≠_;omega) _,hL.later hb⟩
def NewR(B:Nat)(v:Value)(W:World):Prop:=∃g,v=.pointer (some ⟨g,0,none⟩)/\B<g/\Blk W g 36 #[.int .i64 0,.int .i64 0]
theorem NewR.stab(B:Nat):∀v W W',Gr W W'->NewR B v W->NewR B v W':=λ_ _ _ hG⟨g,h1,h2,h3⟩=>⟨g,h1,h2,h3.later hG⟩
structure RX(V W:World)(p q:Nat)(y z:Rg):Prop where
 bel:Below V.heap.size V W
 bp:Blk W p 36 #[.int .i64 y.lo,.int .i64 y.hi]
 bq:Blk W q 36 #[.int .i64 z.lo,.int .i64 z.hi]
theorem rx_a(V:World)(y z:Rg):RX V (((V.alloc (.cells #[.int .i64 y.lo,.int .i64 y.hi] 36)).alloc (.cells #[.int .i64 z.lo,.int .i64 z.hi] 36)).drew) V.heap.size (V.heap.size+1) y z:=by
 refine⟨(balloc (balloc (brefl V) _) _).drew,(Blk.new V _ _).alloc _,?_⟩
 have:=Blk.new (V.alloc (.cells #[.int .i64 y.lo,.int .i64 y.hi] 36)) 36 #[.int .i64 z.lo,.int .i64 z.hi]
 rwa[World.size_alloc]at this
theorem rx_b(V:World)(y z:Rg):RX V (((V.alloc (.cells #[.int .i64 z.lo,.int .i64 z.hi] 36)).alloc (.cells #[.int .i64 y.lo,.int .i64 y.hi] 36)).drew) (V.heap.size+1) V.heap.size y z:=by
 refine⟨(balloc (balloc (brefl V) _) _).drew,?_,(Blk.new V _ _).alloc _⟩
 have:=Blk.new (V.alloc (.cells #[.int .i64 z.lo,.int .i64 z.hi] 36)) 36 #[.int .i64 y.lo,.int .i64 y.hi]
 rwa[World.size_alloc]at this
theorem mul_small{a b:Int}(ha:a.natAbs<=2000)(hb:b.natAbs<=100):IntKind.i64.wrap (a*b)=a*b/\(a*b).natAbs<=200000:=by
 have h:=Nat.mul_le_mul ha hb
 rw[<-Int.natAbs_mul]at h
 refine⟨?_,h⟩
 rw[IntKind.wrap_i64]
 omega
theorem eqItems_step(W:World)(xs ys:Array Value)(i:Nat)(is:List Nat)(a b:Int)(hx:xs[i*1]? =some (.int .i64 a)) (hy:ys[i*1]? =some (.int .i64 b)):(Op.eqItems 9999 3 1 xs ys (i::is)).run Tryz.prog W=if a==b then(Op.eqItems 9999 3 1 xs ys is).run Tryz.prog W else .ok false W:=by
 have hp:Tryz.prog.plainKey 3=true:=by kernel_rfl
 have he:(Op.equalIn 9999 3 (.int .i64 a) (.int .i64 b)).run Tryz.prog W=.ok (a==b) W:=run_equalIn_int W 9998 3 .i64 .i64 a b Tryz.underlying3
 simp only[Op.eqItems,Sem.run_bind]
 rw[run_part_plain W hp hx,Result.andThen_ok,run_part_plain W hp hy,Result.andThen_ok,he,Result.andThen_ok]
 cases a==b<;>simp
theorem places_eq(a b c:Int)(q:Bool)(hq:(a==0&&b==0&&c==0)=q)(W:World):(Op.equalIn 10000 198 (.agg #[.int .i64 a,.int .i64 b,.int .i64 c]) (.agg #[.int .i64 0,.int .i64 0,.int .i64 0])).run Tryz.prog W=.ok q W:=by
 have hi:(Tryz.prog.info? 3).isSome=true:=by kernel_rfl
 obtain⟨i0,hi0⟩:=Option.isSome_iff_exists.1 hi
 rw[run_equalIn_array W 9999 _ _ (by kernel_rfl:Tryz.prog.underlying 198=some (.array 3 3)) hi0,show Tryz.prog.cellsOf 3=1 from by kernel_rfl]
 simp only[show List.range 3=[0,1,2]from rfl]
 rw[eqItems_step W _ _ 0 _ a 0 rfl rfl,eqItems_step W _ _ 1 _ b 0 rfl rfl,eqItems_step W _ _ 2 _ c 0 rfl rfl,<-hq]
 cases a==0<;>cases b==0<;>cases c==0<;>simp[Op.eqItems]
set_option maxRecDepth 100000 in
set_option maxHeartbeats 16000000 in
theorem proves_0(T:Nat)(A E:Option Addr)(n c ce:Nat)(xs:List Int)(es:List Rg)(pa:Nat)(w:World)(hL:Lat w T A E n c ce xs es)(hok:LogOk n xs es)(hp:pa<n):
 Calls Tryz.prog 106 #[.pointer (some ⟨T,0,none⟩),pv ⟨pa,pa,pa,0⟩] w λe w'=>e=.returned (qv (prQ xs es ⟨pa,pa,pa,0⟩))/\Below w.heap.size w w':=by
 have hab:pa<n/\pa<n/\pa<n:=⟨hp,hp,hp⟩
 obtain⟨ab,ao,eb,eo,rfl,rfl⟩:=hL.parts hok.n2
 have HV:=Lib.hid (show VX w (((w.alloc (.cells #[.int .i64 (pa:Nat),.int .i64 (pa:Nat),.int .i64 (pa:Nat),.int .i64 0] 120)).alloc (.cells #[.int .i64 0,.int .i64 0] 59)).alloc (.cells #[.int .i64 (pa:Nat),.int .i64 (pa:Nat),.int .i64 (pa:Nat)] 198)) ⟨pa,pa,pa,0⟩ T _ _ n c ce xs es from
  ⟨balloc (balloc (balloc (brefl w) _) _) _,((Blk.new w _ _).alloc _).alloc _,by
    have:=(Blk.new (w.alloc (.cells #[.int .i64 (pa:Nat),.int .i64 (pa:Nat),.int .i64 (pa:Nat),.int .i64 0] 120)) 59 #[.int .i64 0,.int .i64 0]).alloc (.cells #[.int .i64 (pa:Nat),.int .i64 (pa:Nat),.int .i64 (pa:Nat)] 198)
    rwa[World.size_alloc]at this,by
    have:=Blk.new ((w.alloc (.cells #[.int .i64 (pa:Nat),.int .i64 (pa:Nat),.int .i64 (pa:Nat),.int .i64 0] 120)).alloc (.cells #[.int .i64 0,.int .i64 0] 59)) 198 #[.int .i64 (pa:Nat),.int .i64 (pa:Nat),.int .i64 (pa:Nat)]
    rwa[World.size_alloc,World.size_alloc]at this,hL.later (balloc (balloc (balloc (brefl w) _) _) _)⟩)
 obtain⟨t0,t1,t2⟩:=hL.cells
 have i0:(0:Int)<=(pa:Int):=by omega
 have i1:(pa:Int)<(n:Int):=by omega
 have HL:=Lib.hid hL
 clear hL
 go_enter Tryz.func106,Tryz.ntmps106
 go_wp2_with fail
 clear t0 t1 t2
 refine dag 10 (by kernel_rfl) (by kernel_rfl) (.is ?_::.is ?_::.is ?_::.is ?_::.is ?_::.is ?_::.is ?_::.is ?_::.is ?_::.like (NewR (w.heap.size+1+1))::[]) rfl ?sta ?oba
 case sta=>repeat (first|exact stab_nil|refine stab_is ?_|refine stab_like (NewR.stab _) ?_)
 case oba=>
 intro env V hG
 have hV:=HV.out.later hG
 have HV1:=Lib.hid hV
 obtain⟨t0,t1,t2⟩:=hV.lat.cells
 obtain⟨e2,e0,e1⟩:=hV.lat.ecell hab.2.1
 have p0:V.cell? ⟨w.heap.size,1,none⟩=some (.int .i64 (pa:Nat)):=hV.b0.cell 1
 have p1:=hV.b0.lt
 have hlt:w.heap.size+1+1<V.heap.size:=by have:=hG.size;simp at this;omega
 clear hV
 iterate 9 (refine obls_is ?_ ?_;unfold doesAt;go_simp;(try go_bits);(first|(refine⟨brefl _,?_⟩;rfl)|rfl);intro K hK;go_simp;refine hK _ ?_;clear hK K)
 refine obls_like (λ_=>?_) ?_
 ·unfold doesAt
  go_simp
  exact⟨balloc (brefl _) _,_,rfl,hlt,Blk.new _ _ _⟩
 intro K hK
 go_simp
 refine hK _ ?_
 clear hK K
 refine obls_last (λhok=>?_)
 obtain⟨g,hg,hgl,hgb⟩:=hok 9 _ rfl
 change env 9=_ at hg
 rw[hg]
 have g0:=hgb.lt
 have g1:=hgb.frozen 0
 have g2:=hgb.frozen 1
 have g3:V.cell? ⟨g,0,none⟩=some (.int .i64 0):=hgb.cell 0
 have g4:V.cell? ⟨g,1,none⟩=some (.int .i64 0):=hgb.cell 1
 unfold doesAt
 go_simp
 have HV2:=Lib.hid ((HV1.out.set HL.out (g:=g) (by omega) 0 (.int .i64 (eAt es pa).lo)).set HL.out (g:=g) (by omega) 1 (.int .i64 (eAt es pa).hi))
 have HG:=Lib.hid (show Blk ((V.setCell ⟨g,0,none⟩ (.int .i64 (eAt es pa).lo)).setCell ⟨g,1,none⟩ (.int .i64 (eAt es pa).hi)) g 36 #[.int .i64 (eAt es pa).lo,.int .i64 (eAt es pa).hi]from(hgb.set 0 (.int .i64 (eAt es pa).lo)).set 1 (.int .i64 (eAt es pa).hi))
 have Hgl:=Lib.hid hgl
 obtain⟨W3,hW3⟩:∃W3,(V.setCell ⟨g,0,none⟩ (.int .i64 (eAt es pa).lo)).setCell ⟨g,1,none⟩ (.int .i64 (eAt es pa).hi)=W3:=⟨_,rfl⟩
 rw[hW3]at HV2 HG ⊢
 clear hG hg hgb HV HV1 t0 t1 t2 e0 e1 e2 p0 p1 g0 g1 g2 g3 g4 hlt hok hW3 hgl
 clear V
 have q0:W3.cell? ⟨w.heap.size,0,none⟩=some (.int .i64 (pa:Nat)):=HV2.out.b0.cell 0
 have q1:W3.cell? ⟨w.heap.size,1,none⟩=some (.int .i64 (pa:Nat)):=HV2.out.b0.cell 1
 have q2:W3.cell? ⟨w.heap.size,2,none⟩=some (.int .i64 (pa:Nat)):=HV2.out.b0.cell 2
 have q3:W3.cell? ⟨w.heap.size,3,none⟩=some (.int .i64 0):=HV2.out.b0.cell 3
 have q4:=HV2.out.b0.lt
 have q5:W3.cell? ⟨w.heap.size+1+1,0,none⟩=some (.int .i64 (pa:Nat)):=HV2.out.b2.cell 0
 have q6:W3.cell? ⟨w.heap.size+1+1,1,none⟩=some (.int .i64 (pa:Nat)):=HV2.out.b2.cell 1
 have q7:W3.cell? ⟨w.heap.size+1+1,2,none⟩=some (.int .i64 (pa:Nat)):=HV2.out.b2.cell 2
 have q8:=HV2.out.b2.lt
 have r0:W3.cell? ⟨g,0,none⟩=some (.int .i64 (eAt es pa).lo):=HG.out.cell 0
 have r1:W3.cell? ⟨g,1,none⟩=some (.int .i64 (eAt es pa).hi):=HG.out.cell 1
 have r2:=HG.out.lt
 have hbe:-1000<=(eAt es pa).lo/\(eAt es pa).lo<=(eAt es pa).hi/\(eAt es pa).hi<=1000:=hok.e hab.1
 have k1:IntKind.i64.wrap ((eAt es pa).hi-(eAt es pa).lo)=(eAt es pa).hi-(eAt es pa).lo:=by rw[IntKind.wrap_i64];omega
 obtain⟨q,hq⟩:∃q,(((pa:Nat):Int)==0&&((pa:Nat):Int)==0&&((pa:Nat):Int)==0)=q:=⟨_,rfl⟩
 have k3:=places_eq (pa:Nat) (pa:Nat) (pa:Nat) q hq
 clear hq
 cases q with
 |true=>
  go_wp2_with fail
  refine(by_any ((eAt es pa).hi-(eAt es pa).lo) 2 _ ⟨by omega,by omega⟩ ⟨by omega,by omega⟩).mono ?_
  rintro e W4⟨rfl,hb⟩
  have HV3:=Lib.hid (HV2.out.later hb)
  clear q0 q1 q2 q3 q4 q5 q6 q7 q8 r0 r1 r2 hb HV2 HG
  have c0:W4.cell? ⟨w.heap.size+1,0,none⟩=some (.int .i64 0):=HV3.out.b1.cell 0
  have c1:W4.cell? ⟨w.heap.size+1,1,none⟩=some (.int .i64 0):=HV3.out.b1.cell 1
  have c2:=HV3.out.b1.lt
  have c3:=HV3.out.b1.frozen 0
  have c4:=HV3.out.b1.frozen 1
  have hq:byQ ((eAt es pa).hi-(eAt es pa).lo) 2=prQ xs es ⟨pa,pa,pa,0⟩:=by simp[prQ,numV,denV]
  obtain⟨z,hz⟩:∃z,byQ ((eAt es pa).hi-(eAt es pa).lo) 2=z:=⟨_,rfl⟩
  rw[hz]at hq ⊢
  have Hq:=Lib.hid hq
  clear hz hq
  go_wp2
  refine bodyPost_ret (v:=qv z) (by simp[results,Tryz.results106,go_sem,c0,c1]) rfl ⟨by rw[<-Hq.out],bset (bset HV3.out.bel (p:=⟨w.heap.size+1,0,none⟩) (by simp) _) (p:=⟨w.heap.size+1,1,none⟩) (by simp) _⟩
 |false=>
  go_wp2_with fail
  refine(by_any ((eAt es pa).hi-(eAt es pa).lo) 2 _ ⟨by omega,by omega⟩ ⟨by omega,by omega⟩).mono ?_
  rintro e W4⟨rfl,hb⟩
  have HV3:=Lib.hid (HV2.out.later hb)
  clear q0 q1 q2 q3 q4 q5 q6 q7 q8 r0 r1 r2 hb HV2 HG
  have c0:W4.cell? ⟨w.heap.size+1,0,none⟩=some (.int .i64 0):=HV3.out.b1.cell 0
  have c1:W4.cell? ⟨w.heap.size+1,1,none⟩=some (.int .i64 0):=HV3.out.b1.cell 1
  have c2:=HV3.out.b1.lt
  have c3:=HV3.out.b1.frozen 0
  have c4:=HV3.out.b1.frozen 1
  have hq:byQ ((eAt es pa).hi-(eAt es pa).lo) 2=prQ xs es ⟨pa,pa,pa,0⟩:=by simp[prQ,numV,denV]
  obtain⟨z,hz⟩:∃z,byQ ((eAt es pa).hi-(eAt es pa).lo) 2=z:=⟨_,rfl⟩
  rw[hz]at hq ⊢
  have Hq:=Lib.hid hq
  clear hz hq
  go_wp2
  refine bodyPost_ret (v:=qv z) (by simp[results,Tryz.results106,go_sem,c0,c1]) rfl ⟨by rw[<-Hq.out],bset (bset HV3.out.bel (p:=⟨w.heap.size+1,0,none⟩) (by simp) _) (p:=⟨w.heap.size+1,1,none⟩) (by simp) _⟩
end Go.Proofs.YtednconodjeniaaGreat.P
