/- TopSteamedPatch: the plain law, of all sheets of one row: loads, patches, knots that are alone, patches that end where loads are steamed. -/
import Derived.Test.YtifehdoghfnhoaaGreatDoorZPbN
import Derived.Test.YtifehdoghfnhoaaGreatDoorZSPlainG
namespace Go.Proofs.YtifehdoghfnhoaaGreatDoor.Pa
open Go.RowKit Go.Shelf Go.Proofs.YtifehdoghfnhoaaGreatDoor.C
def hasN(p:Pc)(c:Nat×Nat):Bool:=Nat.ble p.t c.1&&Nat.blt c.1 (p.t+p.r)&&(Nat.ble p.l c.2&&Nat.blt c.2 (p.l+p.c))
theorem inR_hasN(t r x:Nat):C.inR (t:Int) ((t:Int)+(r:Int)-1) (x:Int)=(Nat.ble t x&&Nat.blt x (t+r)):=by
 rw[Bool.eq_iff_iff,C.inR_iff,Bool.and_eq_true]
 constructor
 ·intro h
  exact⟨Nat.ble_eq_true_of_le (by omega),blt_yes (by omega)⟩
 ·rintro⟨h1,h2⟩
  have h3:=Nat.le_of_ble_eq_true h1
  have h4:x<t+r:=Nat.le_of_ble_eq_true h2
  omega
set_option maxRecDepth 100000 in
set_option maxHeartbeats 2000000 in
theorem has_ok(p:Pc)(c:Nat×Nat)(hp:PcOk p)(w:World):
 Calls Tryz.prog 35 #[.agg #[.int .i64 (p.t:Nat),.int .i64 (p.l:Nat),.int .i64 (p.r:Nat),.int .i64 (p.c:Nat)],.agg #[.int .i64 (c.1:Nat),.int .i64 (c.2:Nat)]] w λe w'=>e=.returned (.bool (hasN p c))/\Below w.heap.size w w':=by
 obtain⟨t,l,r,k⟩:=p
 obtain⟨x,y⟩:=c
 obtain⟨h1,h2,h3,h4,h5,h6⟩:=hp
 simp only at h1 h2 h3 h4 h5 h6
 dsimp only
 have hv:hasN ⟨t,l,r,k⟩ (x,y)=(C.inR (t:Int) ((t:Int)+(r:Int)-1) (x:Int)&&C.inR (l:Int) ((l:Int)+(k:Int)-1) (y:Int)):=by
  rw[inR_hasN,inR_hasN]
  rfl
 have s1:IntKind.i64.wrap ((t:Int)+(r:Int))=(t:Int)+(r:Int):=by rw[IntKind.wrap_i64];omega
 have s2:IntKind.i64.wrap ((t:Int)+(r:Int)-1)=(t:Int)+(r:Int)-1:=by rw[IntKind.wrap_i64];omega
 have s3:IntKind.i64.wrap ((l:Int)+(k:Int))=(l:Int)+(k:Int):=by rw[IntKind.wrap_i64];omega
 have s4:IntKind.i64.wrap ((l:Int)+(k:Int)-1)=(l:Int)+(k:Int)-1:=by rw[IntKind.wrap_i64];omega
 have HW:=Lib.hid (λ(lo hi x:Int)(V:World)=>within_one lo hi x V.heap.size (V.alloc (.cells #[.int .i64 x] 3)) (by simp) ((Blk.new V 3 #[.int .i64 x]).cell 0))
 have HB:=Lib.hid (balloc (balloc (brefl w) (.cells #[.int .i64 (t:Nat),.int .i64 (l:Nat),.int .i64 (r:Nat),.int .i64 (k:Nat)] 49)) (.cells #[.int .i64 (x:Nat),.int .i64 (y:Nat)] 90))
 have HP:=Lib.hid ((Blk.new w 49 #[.int .i64 (t:Nat),.int .i64 (l:Nat),.int .i64 (r:Nat),.int .i64 (k:Nat)]).alloc (.cells #[.int .i64 (x:Nat),.int .i64 (y:Nat)] 90))
 have h7:=Blk.new (w.alloc (.cells #[.int .i64 (t:Nat),.int .i64 (l:Nat),.int .i64 (r:Nat),.int .i64 (k:Nat)] 49)) 90 #[.int .i64 (x:Nat),.int .i64 (y:Nat)]
 have hw1:=HW.out (t:Int) ((t:Int)+(r:Int)-1) (x:Int) ((w.alloc (.cells #[.int .i64 (t:Nat),.int .i64 (l:Nat),.int .i64 (r:Nat),.int .i64 (k:Nat)] 49)).alloc (.cells #[.int .i64 (x:Nat),.int .i64 (y:Nat)] 90))
 rw[World.size_alloc,World.size_alloc]at hw1
 rw[World.size_alloc]at h7
 have HC:=Lib.hid h7
 obtain⟨b1,hb1⟩:∃b,C.inR (t:Int) ((t:Int)+(r:Int)-1) (x:Int)=b:=⟨_,rfl⟩
 obtain⟨b2,hb2⟩:∃b,C.inR (l:Int) ((l:Int)+(k:Int)-1) (y:Int)=b:=⟨_,rfl⟩
 rw[hv,hb1,hb2]
 rw[hb1]at hw1
 have HW1:=Lib.hid hw1
 have HW2:=Lib.hid (λV=>by
  have:=HW.out (l:Int) ((l:Int)+(k:Int)-1) (y:Int) V
  rw[hb2]at this
  exact this)
 clear hv h1 h2 h3 h4 h5 h6 hb1 hb2 hw1 h7
 go_enter Tryz.func35,Tryz.ntmps35
 go_wp2_with fail
 refine HW1.out.mono ?_
 rintro e w1⟨rfl,hb1⟩
 have hb2:=Below.later (balloc (brefl _) _) hb1
 have HB1:=Lib.hid (Below.later HB.out hb2)
 have HP1:=HP.out.later hb2
 have HC1:=HC.out.later hb2
 have c0:=HP1.cell 1
 have c1:=HP1.cell 3
 have c2:=HP1.lt
 have c3:=HC1.cell 1
 have c4:=HC1.lt
 clear hb1 hb2 HP HC HP1 HC1
 cases b1 with
 |true=>
  go_wp2_with fail
  refine(HW2.out w1).mono ?_
  rintro e w2⟨rfl,hb3⟩
  have HB2:=Lib.hid (Below.later HB1.out (Below.later (balloc (brefl _) _) hb3))
  clear hb3
  go_wp2_with fail
  go_ret
  exact⟨rfl,HB2.out⟩
 |false=>
  go_wp2_with fail
  go_ret
  exact⟨rfl,HB1.out⟩
theorem ltPc{W:World}{B:Nat}{A:Option Addr}{n c:Nat}{xs:List Pc}(h:Sl 4 encPc W B A n c xs){i:Nat}(hi:i<n):∃b o x,A=some ⟨b,o,none⟩/\b<B/\xs[i]? =some x/\W.cell? ⟨b,o+i*4,none⟩=some (.int .i64 (x.t:Nat))/\W.cell? ⟨b,o+i*4+1,none⟩=some (.int .i64 (x.l:Nat))/\W.cell? ⟨b,o+i*4+2,none⟩=some (.int .i64 (x.r:Nat))/\W.cell? ⟨b,o+i*4+3,none⟩=some (.int .i64 (x.c:Nat)):=by
 obtain⟨b,o,r,hA,hB,hx,hc⟩:=h.lt hi
 exact⟨b,o,r,hA,hB,hx,by simpa using hc 0 _ rfl,by simpa using hc 1 _ rfl,by simpa using hc 2 _ rfl,by simpa using hc 3 _ rfl⟩
set_option maxHeartbeats 2000000 in
theorem indexPc(g:Nat)(lb:Array Value)(eg:∀args w,(callFunc g args).run Tryz.prog w=.ok (.enter g args) w)(p:Pc->Bool)(A:Option Addr)(n c:Nat)(xs:List Pc)(w:World)
 (hs:Sl 4 encPc w w.heap.size A n c xs)
 (hp:∀x W,x∈xs->Below w.heap.size w W->Calls Tryz.prog g (#[.agg #[.int .i64 (x.t:Nat),.int .i64 (x.l:Nat),.int .i64 (x.r:Nat),.int .i64 (x.c:Nat)]]++lb) W λe W'=>e=.returned (.bool (p x))/\Below W.heap.size W W'):
 Calls Tryz.prog 59 #[.slice A n c,.func (.func g) #[] lb] w λe w'=>e=.returned (.int .i64 (idxB p xs 0))/\Below w.heap.size w w':=by
 have hl:=hs.len
 have hcap:=hs.cap
 have hbig:=hs.big
 have Hp:=Lib.hid hp
 clear hp
 go_enter Tryz.func59,Tryz.ntmps59
 go_wp2
 go_loopw [8] (λi wr=>∃k:Nat,k<=n/\i=.int .i64 k/\(∀j x,j<k->xs[j]? =some x->p x=false)/\Below w.heap.size w wr) (λi _=>n-(intOf i).toNat)
 case atStart=>exact⟨0,by omega,rfl,by omega,Below.refl _ _⟩
 case round=>
  obtain⟨k,hk,rfl,hno,hb⟩:=hrel
  by_cases hlt:k<n
  ·obtain⟨b,o,x,rfl,hB,hx,hc0,hc1,hc2,hc3⟩:=ltPc (hs.below hb) hlt
   have Hno:=Lib.hid hno
   have Hx:=Lib.hid hx
   have Hb:=Lib.hid hb
   clear hno hx hb
   go_wp2_with (go_at_fn g;refine(Hp.out x _ (List.mem_of_getElem? Hx.out) Hb.out).mono ?_;rintro e w1 ⟨rfl,hb1⟩)
   ·have hpx:p x=true:=by assumption
    go_ret
    exact⟨ret_int (idxB_at Hno.out Hx.out hpx).symm,Below.later Hb.out hb1⟩
   ·have hpx:p x=false:=by assumption
    go_roundw
    case rel=>exact⟨k+1,by omega,by go_num,no_succ Hno.out Hx.out hpx,Below.later Hb.out hb1⟩
    case measure=>simp[intOf];omega
  ·obtain rfl:k=n:=by omega
   have Hno:=Lib.hid hno
   have Hb:=Lib.hid hb
   clear hno hb
   go_wp2
   go_ret
   exact⟨ret_int (idxB_no (by rw[hl];exact Hno.out)).symm,Hb.out⟩
set_option maxHeartbeats 400000 in
theorem containsPc(g:Nat)(lb:Array Value)(eg:∀args w,(callFunc g args).run Tryz.prog w=.ok (.enter g args) w)(p:Pc->Bool)(A:Option Addr)(n c:Nat)(xs:List Pc)(w:World)
 (hs:Sl 4 encPc w w.heap.size A n c xs)
 (hp:∀x W,x∈xs->Below w.heap.size w W->Calls Tryz.prog g (#[.agg #[.int .i64 (x.t:Nat),.int .i64 (x.l:Nat),.int .i64 (x.r:Nat),.int .i64 (x.c:Nat)]]++lb) W λe W'=>e=.returned (.bool (p x))/\Below W.heap.size W W'):
 Calls Tryz.prog 33 #[.slice A n c,.func (.func g) #[] lb] w λe w'=>e=.returned (.bool (xs.any p))/\Below w.heap.size w w':=by
 have H:=Lib.hid (indexPc g lb eg p A n c xs w hs hp)
 clear hs hp
 go_enter Tryz.func33,Tryz.ntmps33
 go_wp2_with (go_at_call 59;refine H.out.mono ?_;rintro e w1 ⟨rfl,hb1⟩)
 go_ret
 exact⟨ret_bool (idxB_ge p xs 0),hb1⟩
set_option maxHeartbeats 1000000 in
theorem hasC(x:Pc)(c:Nat×Nat)(C:Nat)(hx:PcOk x)(w:World)(h:Blk w C 90 #[.int .i64 (c.1:Nat),.int .i64 (c.2:Nat)]):
 Calls Tryz.prog 34 #[.agg #[.int .i64 (x.t:Nat),.int .i64 (x.l:Nat),.int .i64 (x.r:Nat),.int .i64 (x.c:Nat)],.pointer (some ⟨C,0,none⟩)] w λe w'=>e=.returned (.bool (hasN x c))/\Below w.heap.size w w':=by
 have h':=h.alloc (.cells #[.int .i64 (x.t:Nat),.int .i64 (x.l:Nat),.int .i64 (x.r:Nat),.int .i64 (x.c:Nat)] 49)
 have c0:=h'.cell 0
 have c1:=h'.cell 1
 have c2:=h'.lt
 have d0:=h.cell 0
 have d1:=h.cell 1
 have d2:=h.lt
 have H:=Lib.hid (has_ok x c hx)
 have HB:=Lib.hid (balloc (brefl w) (.cells #[.int .i64 (x.t:Nat),.int .i64 (x.l:Nat),.int .i64 (x.r:Nat),.int .i64 (x.c:Nat)] 49))
 clear h h' hx
 go_enter Tryz.func34,Tryz.ntmps34
 go_wp2_with fail
 refine(H.out _).mono ?_
 rintro e w1⟨rfl,hb1⟩
 have HB1:=Lib.hid (Below.later HB.out hb1)
 clear hb1
 go_wp2_with fail
 go_ret
 exact⟨rfl,HB1.out⟩
end Go.Proofs.YtifehdoghfnhoaaGreatDoor.Pa
namespace Go.Proofs.YtifehdoghfnhoaaGreatDoor.Pa
open Go.RowKit Go.Shelf Go.Proofs.YtifehdoghfnhoaaGreatDoor.C
set_option maxRecDepth 100000 in
set_option maxHeartbeats 8000000 in
theorem CheckPatches_ok(RA:Option Addr)(rn rc most cn:Nat)(rows:List ByteArray)(B:Option Addr)(m c:Nat)(ps:List Pc)(w:World)(hs:Sl 1 encB8 w w.heap.size RA rn rc rows)(hok:ShOk rn cn most rows)(h10:(knN (atB rows 111) cn rn 0).length<=10)(h35:∀a c,atB rows 35 a c=false)(hp:Sl 4 encPc w w.heap.size B m c ps)(hm:m<=10)(hall:∀q∈ps,PcOk q/\pcE rn cn most q=0)(hcov:∀k∈knN (atB rows 111) cn rn 0,ps.any (λq=>hasN q k)=true):
 Calls Tryz.prog 12 #[.agg #[.slice RA rn rc,.int .i64 (most:Nat)],.slice B m c] w λe w'=>∃n:Int,e=.returned (.tuple #[.int .i64 n,.int .i64 0])/\Below w.heap.size w w':=by
 have Ho:=Lib.hid (λW(hb:Below w.heap.size w W)=>open_be RA rn rc most cn rows W (hs.later (w':=W) hb) hok h10)
 have Hli:=Lib.hid (λT p(hof:BeOf p rn cn most rows)(q:Pc)(hq:q∈ps)W(hbe:Be p T W)=>by
  have hcl:=hof.clear h35 hok.m1
  have h1:Calls Tryz.prog 32 #[.pointer (some ⟨T,0,none⟩),.agg #[.int .i64 (q.t:Nat),.int .i64 (q.l:Nat),.int .i64 (q.r:Nat),.int .i64 (q.c:Nat)]] W (λe w'=>e=.returned (.int .i64 (liesE p.rn p.rs.size p.most p.F (nzF p.F) q:Nat))/\Below W.heap.size W w'):=lies_be p T q W hbe (hall q hq).1
  rw[hcl.nz,liesE_clear,hof.hrn,hof.hcn,hof.hmost,(hall q hq).2]at h1
  exact h1)
 have Hpc:=Lib.hid (λq(hq:q∈ps)=>(hall q hq).1)
 have Hp:=Lib.hid hp
 have hpl:=hp.len
 have hpc:=hp.cap
 have Hcov:=Lib.hid hcov
 have HM:=Lib.hid hm
 have g1:¬((10:Int)<(m:Int)):=by omega
 clear hs hok h10 h35 hp hall hcov
 go_enter Tryz.func12,Tryz.ntmps12
 go_wp2_with fail
 refine(Ho.out _ (balloc (brefl w) _)).mono ?_
 rintro e w1⟨T,p,rfl,hb1,hbe,hof⟩
 have HB:=Lib.hid (Below.later (balloc (brefl w) _) hb1)
 have Hbe:=Lib.hid hbe
 have Hl:=Lib.hid (λq hq W(hb:Below w1.heap.size w1 W)=>Hli.out T p hof q hq W (hbe.later hb))
 have Hks:=Lib.hid hof.hks
 have HPs:=Lib.hid (λW(hb:Below w1.heap.size w1 W)=>Hp.out.later (Below.later HB.out hb))
 clear hb1 hbe hof Hli
 go_wp2_with fail
 refine loop_n (λq a W=>a.defers=[]/\∃(i ce:Nat),i+q=m/\ce<=36*i/\Below w1.heap.size w1 W/\Fits (none::some (.slice B m c)::none::none::none::none::some (.pointer (some ⟨T,0,none⟩))::none::some (.int .i64 (ce:Nat))::none::none::none::none::none::none::none::none::none::none::none::none::none::none::none::none::none::none::some (.slice B m c)::some (.int .i64 (m:Nat))::some (.int .i64 (i:Nat))::none::none::none::none::none::none::none::none::none::none::none::none::none::none::none::none::none::none::none::none::none::none::none::none::none::none::none::none::none::none::none::none::[]) a.tmps.toList) m ?_ ?_
 ·refine⟨rfl,0,0,by omega,by omega,brefl w1,?_⟩
  repeat (first|exact fits_nil|refine fits_none ?_|refine fits_some ?_)
 intro q a W hI K1 hK
 obtain⟨hds,i,ce,hiq,hce,hW,hfit⟩:=hI
 obtain⟨f',hf'⟩:=fits_act hfit
 rw[hds]at hf'
 subst hf'
 clear hfit hds
 simp only[fillP,Nat.reduceAdd]
 have HW:=Lib.hid hW
 have HK:=Lib.hid (@hK)
 clear hW hK
 by_cases hlt:i<m
 ·obtain⟨b,o,x,rfl,hbb,hx,x0,x1,x2,x3⟩:=ltPc (HPs.out W HW.out) hlt
  have hxm:=List.mem_of_getElem? hx
  have i1:(i:Int)<(m:Int):=by omega
  have i2:(0:Int)<=(i:Int):=by omega
  have i3:IntKind.i64.wrap ((i:Int)+1)=((i+1:Nat):Int):=by rw[IntKind.wrap_i64];omega
  have Hi:=Lib.hid (show i+q=m/\ce<=36*i/\i<m from⟨hiq,hce,hlt⟩)
  have hxo:=Hpc.out x hxm
  obtain⟨rc',hrc⟩:∃y,x.r*x.c=y:=⟨_,rfl⟩
  have hr36:rc'<=36:=by rw[<-hrc];exact Nat.mul_le_mul hxo.r6 hxo.c6
  have s1:IntKind.i64.wrap ((x.r:Int)*(x.c:Int))=(rc':Int):=by
   rw[show(x.r:Int)*(x.c:Int)=(rc':Int)by rw[<-hrc];simp,IntKind.wrap_i64]
   omega
  obtain⟨ce',hce'⟩:∃y,ce+rc'=y:=⟨_,rfl⟩
  have s2:IntKind.i64.wrap ((ce:Int)+(rc':Int))=(ce':Int):=by
   have:=HM.out
   rw[IntKind.wrap_i64]
   omega
  have Hc:=Lib.hid (show ce'<=36*(i+1)by omega)
  have HX:=Lib.hid hxm
  have HN:=Lib.hid (Blk.new W 49 #[.int .i64 (x.t:Nat),.int .i64 (x.l:Nat),.int .i64 (x.r:Nat),.int .i64 (x.c:Nat)])
  have HBN:=Lib.hid (Below.later HW.out (balloc (brefl W) (.cells #[.int .i64 (x.t:Nat),.int .i64 (x.l:Nat),.int .i64 (x.r:Nat),.int .i64 (x.c:Nat)] 49)))
  clear hxm hxo hx hrc hr36 hce' hiq hce hbb
  have y0:=HN.out.cell 0
  have y1:=HN.out.cell 1
  have y2:=HN.out.cell 2
  have y3:=HN.out.cell 3
  have y4:=HN.out.lt
  go_wp2_with fail
  refine(Hl.out x HX.out _ HBN.out).mono ?_
  rintro e w2⟨rfl,hb2⟩
  have HB2:=Lib.hid (Below.later HBN.out hb2)
  have hN2:=HN.out.later hb2
  clear y0 y1 y2 y3 y4 hb2 HN
  have y2:=hN2.cell 2
  have y3:=hN2.cell 3
  have y4:=hN2.lt
  clear hN2
  go_wp2_with fail
  obtain⟨j1,j2,j3⟩:=Hi.out
  refine HK.out _ _ (q-1) (by omega) ⟨rfl,i+1,ce',by omega,Hc.out,HB2.out,?_⟩
  repeat (first|exact fits_nil|refine fits_none ?_|refine fits_some ?_)
 ·have him:i=m:=by omega
  subst him
  have hk:=(Hbe.out.later HW.out).kn
  have k1:=hk.c2
  have k2:=hk.lt
  have Hkn:=Lib.hid hk
  have HB3:=Lib.hid (Below.later HB.out HW.out)
  have hlen:=hk.sl.len
  have n10:=Hbe.out.n10
  have Hcov2:=Lib.hid (show∀k∈p.ks,ps.any (λq=>hasN q k)=true from by rw[Hks.out];exact Hcov.out)
  clear hk hiq hce hlt
  obtain⟨kn,hkn⟩:∃x,p.ks.length=x:=⟨_,rfl⟩
  rw[hkn]at Hkn k1 hlen n10
  clear hkn
  go_wp2_with fail
  refine loop_n (λq a W2=>a.defers=[]/\∃(k:Nat),k+q=kn/\Below W.heap.size W W2/\Fits (none::some (.slice B i c)::none::none::none::none::none::none::some (.int .i64 (ce:Nat))::none::none::none::none::none::none::none::none::none::none::none::none::none::none::none::none::none::none::none::none::none::none::none::none::none::none::none::none::none::none::none::none::none::none::none::none::none::none::none::none::none::some (.slice p.KA kn p.kc)::some (.int .i64 (kn:Nat))::some (.int .i64 (k:Nat))::none::none::none::none::none::none::none::none::none::[]) a.tmps.toList) kn ?_ ?_
  ·refine⟨rfl,0,by omega,brefl W,?_⟩
   repeat (first|exact fits_nil|refine fits_none ?_|refine fits_some ?_)
  intro q2 a2 W2 hI2 K2 hK2
  obtain⟨hds,k,hkq,hW2,hfit⟩:=hI2
  obtain⟨f',hf'⟩:=fits_act hfit
  rw[hds]at hf'
  subst hf'
  clear hfit hds
  simp only[fillP,Nat.reduceAdd]
  have HW2:=Lib.hid hW2
  have HK2:=Lib.hid (@hK2)
  clear hW2 hK2
  by_cases hlt:k<kn
  ·obtain⟨b,o,x,hKA,hbb,hx,x0,x1⟩:=ltCl (Hkn.out.sl.later HW2.out) hlt
   have hxm:=List.mem_of_getElem? hx
   have HX:=Lib.hid (Hcov2.out x hxm)
   have i1:(k:Int)<(kn:Int):=by omega
   have i2:(0:Int)<=(k:Int):=by omega
   have i3:IntKind.i64.wrap ((k:Int)+1)=((k+1:Nat):Int):=by rw[IntKind.wrap_i64];omega
   have Hi:=Lib.hid (show k+q2=kn/\k<kn from⟨hkq,hlt⟩)
   have HN:=Lib.hid (Blk.new W2 90 #[.int .i64 (x.1:Nat),.int .i64 (x.2:Nat)])
   have HBN:=Lib.hid (Below.later HW2.out (balloc (brefl W2) (.cells #[.int .i64 (x.1:Nat),.int .i64 (x.2:Nat)] 90)))
   rw[hKA]
   clear hxm hx hkq hbb
   go_wp2_with fail
   refine(containsPc 34 #[.pointer (some ⟨W2.heap.size,0,none⟩)] (enters_of Tryz.func34 (by kernel_rfl) rfl) (λq=>hasN q x) B i c ps _ (HPs.out _ (Below.later HW.out HBN.out)) ?_).mono ?_
   ·intro y W' hy hb'
    exact hasC y x W2.heap.size (Hpc.out y hy) W' (HN.out.later hb')
   rintro e w3⟨rfl,hb3⟩
   have HB4:=Lib.hid (Below.later HBN.out hb3)
   rw[HX.out]
   clear hb3
   go_wp2_with fail
   obtain⟨j1,j2⟩:=Hi.out
   refine HK2.out _ _ (q2-1) (by omega) ⟨rfl,k+1,by omega,HB4.out,?_⟩
   rw[hKA]
   repeat (first|exact fits_nil|refine fits_none ?_|refine fits_some ?_)
  ·have hik:k=kn:=by omega
   subst hik
   have HB5:=Lib.hid (Below.later HB3.out HW2.out)
   clear hkq hlt
   go_wp2_with fail
   go_ret2
   exact⟨_,rfl,HB5.out⟩
end Go.Proofs.YtifehdoghfnhoaaGreatDoor.Pa
namespace Go.Proofs.YtifehdoghfnhoaaGreatDoor.Pa
open Go.RowKit
def colsN(b:Nat):Nat->List Nat
 |0=>[]
 |n+1=>bif Nat.beq (b / 2^n % 2) 1 then colsN b n++[n]else colsN b n
def ksN(b n:Nat):List (Nat×Nat):=(colsN b n).map λk=>(0,k)
def rsN(b n m:Nat):List Rg:=(colsN b n).map λk:Nat=>⟨(k:Int),(k:Int)+(m:Int)-1⟩
def fewN(b n m:Nat):Nat:=(Fill.fillL (loAt (rsN b n m)) (hiAt (rsN b n m)) 10 (rsN b n m).length (List.range (rsN b n m).length)).length
def hourF(b n m:Nat):Nat->Int:=asg (Fill.fillA (loAt (rsN b n m)) (hiAt (rsN b n m)) 10 (rsN b n m).length (List.range (rsN b n m).length)) (λ_=>0)
def hoursN(b n m:Nat):List Int:=(List.range (rsN b n m).length).map (hourF b n m)
def leftH(m:Nat)(h:Int):Int:=max 0 (h-m+1)
def rightH(n:Nat)(h:Int):Int:=min ((n:Int)-1) h
def pieceH(n m:Nat)(h:Int):Pc:=⟨0,(leftH m h).toNat,1,(rightH n h-leftH m h+1).toNat⟩
def eqP(p q:Pc):Bool:=Nat.beq p.t q.t&&Nat.beq p.l q.l&&(Nat.beq p.r q.r&&Nat.beq p.c q.c)
def piecesH(n m:Nat):List Int->List Pc->List Pc
 |[],ps=>ps
 |h::hs,ps=>bif ps.any (λq=>eqP q (pieceH n m h))then piecesH n m hs ps else piecesH n m hs (ps++[pieceH n m h])
def hourB(n m:Nat)(h:Int):Bool:=decide (0<=h)&&decide (h<=(n:Int)+m)&&decide (leftH m h<=rightH n h)
def lawB(n m f:Nat)(ks:List (Nat×Nat))(hs:List Int)(ps:List Pc):Bool:=
 Nat.beq (mendL (liesQ 1 n m ks) (wtQ ks) ks.length).length f&&(Nat.beq (aloneG (shareQ 1 n m ks) ks.length ks.length [] []).length f&&(Nat.beq ps.length f&&(ps.all (λp=>Nat.beq (pcE 1 n m p) 0)&&(ks.all (λc=>ps.any (λp=>hasN p c))&&hs.all (hourB n m)))))
def lawN(b n m:Nat):Bool:=lawB n m (fewN b n m) (ksN b n) (hoursN b n m) (piecesH n m (hoursN b n m) [])
def allN(n m:Nat):Nat->Bool
 |0=>true
 |b+1=>lawN b n m&&allN n m b
theorem allN_is{n m:Nat}:∀{k b:Nat},allN n m k=true->b<k->lawN b n m=true
 |0,_,_,h=>by omega
 |k+1,b,h,hb=>by
  simp only[allN,Bool.and_eq_true]at h
  by_cases e:b=k
  ·rw[e];exact h.1
  ·exact allN_is h.2 (by omega)
def all6(n k:Nat):Bool:=allN n 1 k&&(allN n 2 k&&(allN n 3 k&&(allN n 4 k&&(allN n 5 k&&allN n 6 k))))
theorem all6_is{n k m b:Nat}(h:all6 n k=true)(h1:1<=m)(h6:m<=6)(hb:b<k):lawN b n m=true:=by
 simp only[all6,Bool.and_eq_true]at h
 obtain⟨a1,a2,a3,a4,a5,a6⟩:=h
 obtain rfl|rfl|rfl|rfl|rfl|rfl:m=1\/m=2\/m=3\/m=4\/m=5\/m=6:=by omega
 ·exact allN_is a1 hb
 ·exact allN_is a2 hb
 ·exact allN_is a3 hb
 ·exact allN_is a4 hb
 ·exact allN_is a5 hb
 ·exact allN_is a6 hb
theorem law_1:all6 1 2=true:=by kernel_rfl
theorem law_2:all6 2 4=true:=by kernel_rfl
theorem law_3:all6 3 8=true:=by kernel_rfl
theorem law_4:all6 4 16=true:=by kernel_rfl
theorem law_5:all6 5 32=true:=by kernel_rfl
theorem law_6:all6 6 64=true:=by kernel_rfl
theorem colsN_mod(b j:Nat):∀n,n<=j->colsN (b % 2^j) n=colsN b n
 |0,_=>rfl
 |n+1,h=>by
  have e:b % 2^j / 2^n % 2=b / 2^n % 2:=by
   have h1:(b % 2^j).testBit n=b.testBit n:=by rw[Nat.testBit_mod_two_pow];simp;omega
   have h2:=Nat.toNat_testBit (b % 2^j) n
   rw[h1,Nat.toNat_testBit]at h2
   exact h2.symm
  simp only[colsN,e,colsN_mod b j n (by omega)]
structure LawIs(b n m:Nat):Prop where
 mend:(mendL (liesQ 1 n m (ksN b n)) (wtQ (ksN b n)) (ksN b n).length).length=fewN b n m
 alone:(aloneG (shareQ 1 n m (ksN b n)) (ksN b n).length (ksN b n).length [] []).length=fewN b n m
 len:(piecesH n m (hoursN b n m) []).length=fewN b n m
 lie:∀p∈piecesH n m (hoursN b n m) [],pcE 1 n m p=0
 has:∀c∈ksN b n,(piecesH n m (hoursN b n m) []).any (λp=>hasN p c)=true
 hour:∀h∈hoursN b n m,0<=h/\h<=(n:Int)+m/\leftH m h<=rightH n h
theorem law_is(b n m:Nat)(hn:1<=n/\n<=6)(hm:1<=m/\m<=6):LawIs b n m:=by
 have hl:lawN (b % 2^n) n m=true:=by
  have hlt:b % 2^n<2^n:=Nat.mod_lt _ (Nat.two_pow_pos n)
  obtain⟨h1,h6⟩:=hn
  obtain rfl|rfl|rfl|rfl|rfl|rfl:n=1\/n=2\/n=3\/n=4\/n=5\/n=6:=by omega
  ·exact all6_is law_1 hm.1 hm.2 hlt
  ·exact all6_is law_2 hm.1 hm.2 hlt
  ·exact all6_is law_3 hm.1 hm.2 hlt
  ·exact all6_is law_4 hm.1 hm.2 hlt
  ·exact all6_is law_5 hm.1 hm.2 hlt
  ·exact all6_is law_6 hm.1 hm.2 hlt
 have hc:=colsN_mod b n n (Nat.le_refl n)
 have hl2:lawN b n m=true:=by
  simpa only[lawN,fewN,ksN,hoursN,hourF,rsN,hc]using hl
 simp only[lawN,lawB,Bool.and_eq_true,Nat.beq_eq,List.all_eq_true,hourB,decide_eq_true_eq]at hl2
 obtain⟨h1,h2,h3,h4,h5,h6⟩:=hl2
 exact⟨h1,h2,h3,h4,h5,λh hh=>⟨(h6 h hh).1.1,(h6 h hh).1.2,(h6 h hh).2⟩⟩
theorem colsN_lt(b:Nat):∀n,∀k∈colsN b n,k<n
 |0,k,h=>by cases h
 |n+1,k,h=>by
  unfold colsN at h
  cases hb:Nat.beq (b / 2^n % 2) 1 with
  |true=>
   rw[hb,cond_true]at h
   rcases List.mem_append.1 h with h|h
   ·have:=colsN_lt b n k h
    omega
   ·rw[List.mem_singleton.1 h]
    omega
  |false=>
   rw[hb,cond_false]at h
   have:=colsN_lt b n k h
   omega
theorem colsN_len(b:Nat):∀n,(colsN b n).length<=n
 |0=>Nat.le_refl _
 |n+1=>by
  have:=colsN_len b n
  unfold colsN
  cases Nat.beq (b / 2^n % 2) 1<;>simp<;>omega
theorem colsN_up(b:Nat):∀n,(colsN b n).Pairwise (· < ·)
 |0=>List.Pairwise.nil
 |n+1=>by
  unfold colsN
  cases Nat.beq (b / 2^n % 2) 1 with
  |true=>
   rw[cond_true]
   exact List.pairwise_append.2 ⟨colsN_up b n,List.pairwise_singleton _ _,λx hx y hy=>by rw[List.mem_singleton.1 hy];exact colsN_lt b n x hx⟩
  |false=>
   rw[cond_false]
   exact colsN_up b n
theorem rsN_len(b n m:Nat):(rsN b n m).length=(colsN b n).length:=by simp[rsN]
theorem hiAt_rs{b n m i:Nat}(h:i<(colsN b n).length):hiAt (rsN b n m) i=((colsN b n)[i]:Int)+(m:Int)-1:=by
 refine hiAt_eq (x:=⟨((colsN b n)[i]:Int),((colsN b n)[i]:Int)+(m:Int)-1⟩) ?_
 simp[rsN,h]
theorem hi_lt{b n m i j:Nat}(hij:i<j)(h:j<(colsN b n).length):hiAt (rsN b n m) i<hiAt (rsN b n m) j:=by
 rw[hiAt_rs (by omega),hiAt_rs h]
 have:=List.pairwise_iff_getElem.1 (colsN_up b n) i j (by omega) h hij
 omega
theorem fill_one{b n m:Nat}{l:List Nat}{ts:List Int}{H:Nat->Int}(h:FillOk (rsN b n m) 10 l ts H):ts.length=fewN b n m/\(List.range (rsN b n m).length).map H=hoursN b n m:=by
 have hl:l=List.range (rsN b n m).length:=by
  have hmem:∀x∈l,x<(colsN b n).length:=λx hx=>by
   have:=List.mem_range.1 (h.perm.mem_iff.1 hx)
   rwa[rsN_len]at this
  have h1:l.Pairwise (· <= ·):=by
   refine h.srt.imp_of_mem λ{x y}hx hy hle=>?_
   refine Nat.le_of_not_lt λhlt=>?_
   have:=hi_lt (m:=m) hlt (hmem x hx)
   omega
  refine h.perm.eq_of_pairwise (λx y _ _ h1 h2=>Nat.le_antisymm h1 h2) h1 ?_
  exact List.pairwise_le_range
 refine⟨?_,?_⟩
 ·rw[h.ts_eq,hl]
  rfl
 ·unfold hoursN hourF
  rw[h.hrs,hl]
theorem fill_is(b n m:Nat):FillOk (rsN b n m) 10 (List.range (rsN b n m).length) (Fill.fillL (loAt (rsN b n m)) (hiAt (rsN b n m)) 10 (rsN b n m).length (List.range (rsN b n m).length)) (hourF b n m):=by
 refine⟨List.Perm.refl _,?_,rfl,rfl⟩
 refine List.pairwise_iff_getElem.2 λi j hi hj hij=>?_
 simp only[List.getElem_range]
 rw[List.length_range,rsN_len]at hj
 exact Int.le_of_lt (hi_lt hij hj)
theorem rs_ok{b n m:Nat}(hn:n<=6)(hm:1<=m/\m<=6):RsOk (rsN b n m):=by
 have hl:=colsN_len b n
 refine⟨by rw[rsN_len];omega,λx hx=>?_⟩
 obtain⟨k,hk,rfl⟩:=List.mem_map.1 hx
 have:=colsN_lt b n k hk
 dsimp only
 omega
theorem few_is{b n m:Nat}(hn:n<=6)(hm:1<=m/\m<=6):LA (rsN b n m) 10 101=(fewN b n m:Nat):=by
 have h:=fill_is b n m
 rw[<-(fill_late h (rs_ok hn hm) (by omega)).2,(fill_one h).1]
end Go.Proofs.YtifehdoghfnhoaaGreatDoor.Pa
