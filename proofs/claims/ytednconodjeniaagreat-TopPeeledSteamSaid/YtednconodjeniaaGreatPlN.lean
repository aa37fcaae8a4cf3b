/- Peel: the best core of a log that is valid: CheckLog, open, Best. -/
import Derived.Test.YtednconodjeniaaGreatPlF
import Derived.Test.YtednconodjeniaaGreatPlJ
namespace Go.Proofs.YtednconodjeniaaGreat.P
open Go.RowKit Go.Shelf
set_option maxHeartbeats 400000 in
theorem withinC(B1 B2:Nat)(lo hi x:Int)(w:World)(h1:w.cell? ⟨B1,0,none⟩=some (.int .i64 lo))(h2:w.cell? ⟨B2,0,none⟩=some (.int .i64 hi)):
 Calls Tryz.prog 158 #[.int .i64 x,.pointer (some ⟨B1,0,none⟩),.pointer (some ⟨B2,0,none⟩)] w λe w'=>e=.returned (.bool (outR lo hi x))/\Below w.heap.size w w':=by
 have H:=Lib.hid (outR_eq lo hi x)
 by_cases c1:x<lo
 ·go_enter Tryz.func158,Tryz.ntmps158
  go_wp2
  go_ret
  exact⟨ret_bool (by rw[H.out];simp[outB,c1]),Below.refl _ _⟩
 ·by_cases c2:hi<x
  ·go_enter Tryz.func158,Tryz.ntmps158
   go_wp2
   go_ret
   exact⟨ret_bool (by rw[H.out];simp[outB,c2]),Below.refl _ _⟩
  ·go_enter Tryz.func158,Tryz.ntmps158
   go_wp2
   go_ret
   exact⟨ret_bool (by rw[H.out];simp[outB,c1,c2]),Below.refl _ _⟩
set_option maxHeartbeats 400000 in
theorem within_any(lo hi:Int)(A:Option Addr)(n c:Nat)(xs:List Int)(w:World)(hs:Sl 1 encI w w.heap.size A n c xs):
 Calls Tryz.prog 116 #[.int .i64 lo,.int .i64 hi,.slice A n c] w λe w'=>e=.returned (.bool (!(xs.any (outR lo hi))))/\Below w.heap.size w w':=by
 have Hs:=Lib.hid hs
 clear hs
 go_enter Tryz.func116,Tryz.ntmps116
 go_wp2_with (go_at_call 35;refine(containsL 158 #[.pointer (some ⟨w.heap.size,0,none⟩),.pointer (some ⟨w.heap.size+1,0,none⟩)] (enters_of Tryz.func158 (by kernel_rfl) rfl) (outR lo hi) A n c xs _ (Hs.out.later ?_) ?_).mono ?_)
 ·exact((Below.refl _ _).alloc (Nat.le_refl _) _).alloc (by simp) _
 ·intro x W _ hb
  exact withinC _ _ lo hi x W ((hb.cell (p:=⟨w.heap.size,0,none⟩) (by simp;omega)).trans (by go_simp)) ((hb.cell (p:=⟨w.heap.size+1,0,none⟩) (by simp)).trans (by go_simp))
 ·rintro e w1⟨rfl,hb1⟩
  have Hb1:=Lib.hid hb1
  clear hb1
  go_wp2
  go_ret
  exact⟨rfl,Below.later (((Below.refl _ _).alloc (Nat.le_refl _) _).alloc (by simp) _) Hb1.out⟩
theorem sl_ints{W:World}{B:Nat}{t:TypeId}{xs:List Int}(hb:Blk W B t (xs.map (Value.int .i64)).toArray)(hn:xs.length<=1000):Sl 1 encI W W.heap.size (some ⟨B,0,none⟩) xs.length xs.length xs:=
 ⟨rfl,Nat.le_refl _,by omega,λ_=>⟨B,0,rfl,hb.lt,λi x hx j u hu=>by
   have hj:=(List.getElem?_eq_some_iff.1 hu).1
   simp[encI]at hj
   subst hj
   rw[show 0+i*1+0=i by omega,hb.cell]
   simp[hx]
   simpa[encI]using hu⟩⟩
set_option maxRecDepth 100000 in
set_option maxHeartbeats 1000000 in
theorem stray_no(x:Rg)(w:World)(h:-1000<=x.lo/\x.lo<=x.hi/\x.hi<=1000):
 Calls Tryz.prog 148 (#[.agg #[.int .i64 x.lo,.int .i64 x.hi]]++#[]) w λe w'=>e=.returned (.bool false)/\Below w.heap.size w w':=by
 have hw:=λW A n c hs=>within_any (-1000) 1000 A n c [x.lo,x.hi] W hs
 have hv:(!([x.lo,x.hi].any (outR (-1000) 1000)))=true:=by simp[outR_eq,outB];omega
 rw[hv]at hw
 have Hw:=Lib.hid hw
 obtain⟨lo,hi⟩:=x
 dsimp only at h Hw ⊢
 have h1:¬hi<lo:=by omega
 have Hh:=Lib.hid h
 clear hw hv h
 go_enter Tryz.func148,Tryz.ntmps148
 go_wp2_with fail
 have hb2:=Blk.new (w.alloc (.cells #[.int .i64 lo,.int .i64 hi] 36)) 2 #[.int .i64 lo,.int .i64 hi]
 rw[World.size_alloc]at hb2
 refine(Hw.out _ _ 2 2 (sl_ints (xs:=[lo,hi]) hb2 (by simp))).mono ?_
 rintro e w1⟨rfl,hb1⟩
 have Hb1:=Lib.hid (Below.later (balloc (balloc (brefl w) _) _) hb1)
 have c0:w1.cell? ⟨w.heap.size,0,none⟩=some (.int .i64 lo):=(((Blk.new w 36 #[.int .i64 lo,.int .i64 hi]).alloc _).later hb1).cell 0
 have c1:w1.cell? ⟨w.heap.size,1,none⟩=some (.int .i64 hi):=(((Blk.new w 36 #[.int .i64 lo,.int .i64 hi]).alloc _).later hb1).cell 1
 have c2:w.heap.size<w1.heap.size:=(((Blk.new w 36 #[.int .i64 lo,.int .i64 hi]).alloc (.cells #[.int .i64 lo,.int .i64 hi] 2)).later hb1).lt
 have h2:decide (hi<lo)=false:=by simpa using h1
 clear hb1 hb2 h1
 go_wp2
 go_ret
 exact⟨rfl,Hb1.out⟩
structure Eds(W:World)(g k n:Nat)(E:Nat->Option Addr×Nat×List Rg):Prop where
 lt:g<W.heap.size
 cell:∀i,i<k->W.cell? ⟨g,i,none⟩=some (.slice (E i).1 n (E i).2.1)
 sl:∀i,i<k->Sl 2 encR W W.heap.size (E i).1 n (E i).2.1 (E i).2.2
theorem Eds.later{W W':World}{g k n:Nat}{E:Nat->Option Addr×Nat×List Rg}(h:Eds W g k n E)(hb:Below W.heap.size W W'):Eds W' g k n E:=
 ⟨Nat.lt_of_lt_of_le h.lt hb.size,λi hi=>(hb.cell (p:=⟨g,i,none⟩) h.lt).trans (h.cell i hi),λi hi=>(h.sl i hi).later hb⟩
set_option maxRecDepth 100000 in
set_option maxHeartbeats 4000000 in
theorem placed_ok(A:Option Addr)(n c g k:Nat)(xs:List Int)(E:Nat->Option Addr×Nat×List Rg)(w:World)(hs:Sl 1 encI w w.heap.size A n c xs)(hE:Eds w g k n E)(hk:k<=10)(hok:∀i,i<k->LogOk n xs (E i).2.2)(hn:2<=n/\n<=8)(hx:∀x∈xs,0<=x/\x<=100)(hup:∀(i j:Nat)(x y:Int),i<j->xs[i]? =some x->xs[j]? =some y->x<y):
 Calls Tryz.prog 105 #[.slice A n c,.slice (some ⟨g,0,none⟩) k k] w λe w'=>e=.returned (.int .i64 0)/\Below w.heap.size w w':=by
 have hcap:=hs.cap
 have hv1:(!([(n:Int)].any (outR 2 8)))=true:=by simp[outR_eq,outB];omega
 have hv2:(!(xs.any (outR 0 100)))=true:=by
  simp only[Bool.not_eq_true',List.any_eq_false,outR_eq,outB]
  intro x hx'
  have:=hx x hx'
  simp;omega
 have hw1:=λW A c(h:Sl 1 encI W W.heap.size A 1 c [(n:Int)])=>within_any 2 8 A 1 c [(n:Int)] W h
 rw[hv1]at hw1
 have Hw1:=Lib.hid hw1
 have hw2:=λW(h:Sl 1 encI W W.heap.size A n c xs)=>within_any 0 100 A n c xs W h
 rw[hv2]at hw2
 have Hw2:=Lib.hid hw2
 have Hs:=Lib.hid hs
 have HE:=Lib.hid hE
 have Hok:=Lib.hid hok
 have Hup:=Lib.hid hup
 clear hw1 hw2 hv1 hv2 hs hE hok hx hup
 go_enter Tryz.func105,Tryz.ntmps105
 go_wp2_with fail
 have hb2:=Blk.new w 2 #[.int .i64 (n:Nat)]
 refine(Hw1.out _ _ 1 (sl_ints (xs:=[(n:Int)]) hb2 (by simp))).mono ?_
 rintro e w1⟨rfl,hb1⟩
 have HB:=Lib.hid (Below.later (balloc (brefl w) _) hb1)
 clear hb1 hb2 Hw1
 go_wp2_with fail
 refine loop_n (λq a W=>a.defers=[]/\∃i:Nat,i+q=k/\Below w.heap.size w W/\Fits (some (.slice A n c)::some (.slice (some ⟨g,0,none⟩) k k)::none::none::none::some (.func (.func 148) #[] #[])::none::none::none::none::none::none::none::none::none::none::some (.slice (some ⟨g,0,none⟩) k k)::some (.int .i64 (k:Nat))::some (.int .i64 (i:Nat))::none::none::none::none::none::none::none::none::none::none::none::none::none::none::none::none::none::none::none::none::none::none::none::none::none::none::none::none::none::none::none::none::none::none::none::none::none::none::none::[]) a.tmps.toList) k ?_ ?_
 ·refine⟨rfl,0,by omega,HB.out,?_⟩
  repeat (first|exact fits_nil|refine fits_none ?_|refine fits_some ?_)
 clear HB
 intro q a W hI K1 hK
 obtain⟨hds,i,hiq,hB,hfit⟩:=hI
 obtain⟨f',hf'⟩:=fits_act hfit
 rw[hds]at hf'
 subst hf'
 clear hfit hds
 simp only[fillP,Nat.reduceAdd]
 have HB:=Lib.hid hB
 by_cases hlt:i<k
 ·have hEW:=HE.out.later hB
  have e0:=hEW.cell i hlt
  have e1:=hEW.lt
  have i1:(i:Int)<(k:Int):=by omega
  have i2:(0:Int)<=(i:Int):=by omega
  have i3:IntKind.i64.wrap ((i:Int)+1)=(i:Int)+1:=by rw[IntKind.wrap_i64];omega
  clear hEW hB
  go_wp2
  refine hK _ _ (q-1) (by omega) ⟨rfl,i+1,by omega,HB.out,?_⟩
  repeat (first|exact fits_nil|refine fits_none ?_|refine fits_some ?_)
 obtain rfl:i=k:=by omega
 clear hK hB hlt
 go_wp2_with fail
 refine loop_n (λq a W=>a.defers=[]/\∃j:Nat,j+q=i/\Below w.heap.size w W/\Fits (some (.slice A n c)::none::none::none::none::some (.func (.func 148) #[] #[])::none::none::none::none::none::none::none::none::none::none::none::none::none::none::none::none::none::none::none::none::none::none::some (.slice (some ⟨g,0,none⟩) i i)::some (.int .i64 (i:Nat))::some (.int .i64 (j:Nat))::none::none::none::none::none::none::none::none::none::none::none::none::none::none::none::none::none::none::none::none::none::none::none::none::none::none::none::[]) a.tmps.toList) i ?_ ?_
 ·refine⟨rfl,0,by omega,HB.out,?_⟩
  repeat (first|exact fits_nil|refine fits_none ?_|refine fits_some ?_)
 clear HB
 clear W
 intro q a W hI K2 hK
 obtain⟨hds,j,hjq,hB,hfit⟩:=hI
 obtain⟨f',hf'⟩:=fits_act hfit
 rw[hds]at hf'
 subst hf'
 clear hfit hds
 simp only[fillP,Nat.reduceAdd]
 have HB:=Lib.hid hB
 by_cases hlt:j<i
 ·have hEW:=HE.out.later hB
  have e0:=hEW.cell j hlt
  have e1:=hEW.lt
  have i1:(j:Int)<(i:Int):=by omega
  have i2:(0:Int)<=(j:Int):=by omega
  have i3:IntKind.i64.wrap ((j:Int)+1)=(j:Int)+1:=by rw[IntKind.wrap_i64];omega
  have hct:=containsR 148 #[] (enters_of Tryz.func148 (by kernel_rfl) rfl) (λ_=>false) (E j).1 n (E j).2.1 (E j).2.2 W (hEW.sl j hlt) (λx V hx _=>by
   obtain⟨t,ht⟩:=List.getElem?_of_mem hx
   exact stray_no x V ((Hok.out j hlt).ed t x ht))
  have hany:((E j).2.2.any λ_=>false)=false:=by simp
  rw[hany]at hct
  have Hct:=Lib.hid hct
  clear hEW hB hct hany
  go_wp2_with fail
  refine Hct.out.mono ?_
  rintro e w2⟨rfl,hb2⟩
  have HB2:=Lib.hid (Below.later HB.out hb2)
  clear hb2 e0 e1
  go_wp2
  refine hK _ _ (q-1) (by omega) ⟨rfl,j+1,by omega,HB2.out,?_⟩
  repeat (first|exact fits_nil|refine fits_none ?_|refine fits_some ?_)
 obtain rfl:j=i:=by omega
 clear hK hB hlt
 go_wp2_with fail
 refine(Hw2.out _ (Hs.out.later HB.out)).mono ?_
 rintro e w2⟨rfl,hb2⟩
 have HB2:=Lib.hid (Below.later HB.out hb2)
 clear hb2 HB Hw2
 have hc1:¬(c=1):=by omega
 have j1:(1:Int)<=(n:Int):=by omega
 have j2:(n:Int)<=(c:Int):=by omega
 go_wp2_with fail
 refine loop_n (λq a W=>a.defers=[]/\∃t:Nat,t+q=n-1/\Below w.heap.size w W/\Fits (some (.slice A n c)::none::none::none::none::none::none::none::none::none::none::none::none::none::none::none::none::none::none::none::none::none::none::none::none::none::none::none::none::none::none::none::none::none::none::none::none::none::none::none::none::none::none::some (.int .i64 ((n-1:Nat):Int))::some (.int .i64 (t:Nat))::none::none::none::none::none::none::none::none::none::none::none::none::none::[]) a.tmps.toList) (n-1) ?_ ?_
 ·refine⟨rfl,0,by omega,HB2.out,?_⟩
  repeat (first|exact fits_nil|refine fits_none ?_|refine fits_some ?_)
 clear HB2
 clear w2 W
 intro q a W hI K3 hK
 obtain⟨hds,t,htq,hB,hfit⟩:=hI
 obtain⟨f',hf'⟩:=fits_act hfit
 rw[hds]at hf'
 subst hf'
 clear hfit hds
 simp only[fillP,Nat.reduceAdd]
 have HB:=Lib.hid hB
 by_cases hlt:t<n-1
 ·obtain⟨ab,ao,x0,rfl,hab,hx0,y0⟩:=(Hs.out.later hB).ltI (show t<n by omega)
  obtain⟨ab',ao',x1,hA,_,hx1,y1⟩:=(Hs.out.later hB).ltI (show t+1<n by omega)
  cases hA
  have hlt2:=Hup.out t (t+1) x0 x1 (by omega) hx0 hx1
  have i1:(t:Int)<((n-1:Nat):Int):=by omega
  have i2:(0:Int)<=(t:Int):=by omega
  have i3:IntKind.i64.wrap ((t:Int)+1)=(t:Int)+1:=by rw[IntKind.wrap_i64];omega
  have i4:(0:Int)<=(t:Int)+1:=by omega
  have i5:(t:Int)+1<(n:Int):=by omega
  have i6:(t:Int)<(n:Int):=by omega
  have i7:¬(x1<=x0):=by omega
  have i8:decide (x1<=x0)=false:=by simpa using i7
  clear hx0 hx1 hlt2 hB i7
  go_wp2_with fail
  refine dag 10 (by kernel_rfl) (by kernel_rfl) (.is ?_::.is ?_::.is ?_::.is ?_::.is ?_::.is ?_::.is ?_::.is ?_::.is ?_::.is ?_::[]) rfl ?sta ?oba
  case sta=>simp[Spec.ok]
  case oba=>
  intro env V hG
  obtain⟨hc,hf⟩:=bcell hG
  iterate 10 (refine obls_is ?_ ?_;unfold doesAt;go_simp;(try go_bits);(first|(refine⟨brefl _,?_⟩;rfl)|rfl);intro K hK;go_simp;refine hK _ ?_;clear hK K)
  refine obls_nil (λhx=>?_)
  have HB3:=Lib.hid (Below.later HB.out hG)
  clear hx hG hc hf y0 y1 i4 i5 i6
  go_wp2
  refine hK _ _ (q-1) (by omega) ⟨rfl,t+1,by omega,HB3.out,?_⟩
  repeat (first|exact fits_nil|refine fits_none ?_|refine fits_some ?_)
 obtain rfl:t=n-1:=by omega
 clear hK hB hlt
 go_wp2
 go_ret
 exact⟨rfl,HB.out⟩
end Go.Proofs.YtednconodjeniaaGreat.P
namespace Go.Proofs.YtednconodjeniaaGreat.P
open Go.RowKit Go.Shelf
def ProvesC:Prop:=∀(T:Nat)(A E:Option Addr)(n c ce:Nat)(xs:List Int)(es:List Rg)(p:Pr)(w:World),Lat w T A E n c ce xs es->LogOk n xs es->PrOk n p->
    Calls Tryz.prog 106 #[.pointer (some ⟨T,0,none⟩),pv p] w λe w'=>e=.returned (qv (prQ xs es p))/\Below w.heap.size w w'
theorem mul_le{a b:Int}{m k:Nat}(ha:a.natAbs<=m)(hb:b.natAbs<=k):(a*b).natAbs<=m*k:=by
 rw[Int.natAbs_mul]
 exact Nat.mul_le_mul ha hb
theorem prQ_ok{n:Nat}{xs:List Int}{es:List Rg}(hok:LogOk n xs es){p:Pr}(hp:PrOk n p):smQ (prQ xs es p)/\0<(prQ xs es p).2/\(prQ xs es p).1*denV xs p=numV xs es p*(prQ xs es p).2/\0<denV xs p:=by
 obtain⟨pa,pb,pc,ps⟩:=p
 have hab:pa<n/\pb<n/\pc<n:=by unfold PrOk at hp;dsimp only at hp;omega
 have xa:0<=xAt xs pa/\xAt xs pa<=100:=hok.x hab.1
 have xb:0<=xAt xs pb/\xAt xs pb<=100:=hok.x hab.2.1
 have xc:0<=xAt xs pc/\xAt xs pc<=100:=hok.x hab.2.2
 have ya:-1000<=(eAt es pa).lo/\(eAt es pa).lo<=(eAt es pa).hi/\(eAt es pa).hi<=1000:=hok.e hab.1
 have yb:-1000<=(eAt es pb).lo/\(eAt es pb).lo<=(eAt es pb).hi/\(eAt es pb).hi<=1000:=hok.e hab.2.1
 have yc:-1000<=(eAt es pc).lo/\(eAt es pc).lo<=(eAt es pc).hi/\(eAt es pc).hi<=1000:=hok.e hab.2.2
 have hd:0<denV xs ⟨pa,pb,pc,ps⟩/\denV xs ⟨pa,pb,pc,ps⟩<=1000:=by
  unfold denV
  dsimp only
  split
  ·omega
  ·rename_i h0
   rcases hp.2 with⟨_,_,h⟩|⟨h1,h2,_⟩
   ·exact absurd h h0
   ·have xab:xAt xs pa<xAt xs pb:=hok.lt h1 hab.2.1
    have xbc:xAt xs pb<xAt xs pc:=hok.lt h2 hab.2.2
    omega
 have hn:(numV xs es ⟨pa,pb,pc,ps⟩).natAbs<=1000000:=by
  unfold numV
  dsimp only
  have m1:=mul_le (a:=(eAt es pb).hi-(eAt es pa).lo) (b:=xAt xs pc-xAt xs pb) (m:=2000) (k:=100) (by omega) (by omega)
  have m2:=mul_le (a:=(eAt es pb).hi-(eAt es pc).lo) (b:=xAt xs pb-xAt xs pa) (m:=2000) (k:=100) (by omega) (by omega)
  have m3:=mul_le (a:=(eAt es pa).hi-(eAt es pb).lo) (b:=xAt xs pc-xAt xs pb) (m:=2000) (k:=100) (by omega) (by omega)
  have m4:=mul_le (a:=(eAt es pc).hi-(eAt es pb).lo) (b:=xAt xs pb-xAt xs pa) (m:=2000) (k:=100) (by omega) (by omega)
  split
  ·omega
  ·split
   ·omega
   ·omega
 obtain⟨h1,h2,h3,h4⟩:=byQ_eq (n:=numV xs es ⟨pa,pb,pc,ps⟩) hd.1
 refine⟨⟨?_,?_⟩,h1,h2,hd.1⟩
 ·show(byQ _ _).1.natAbs<=_
  omega
 ·show(byQ _ _).2.natAbs<=_
  omega
set_option maxRecDepth 100000 in
set_option maxHeartbeats 1000000 in
theorem lathe_best(HP:ProvesC)(T:Nat)(A E:Option Addr)(n c ce:Nat)(xs:List Int)(es:List Rg)(w:World)(hL:Lat w T A E n c ce xs es)(hok:LogOk n xs es):
 Calls Tryz.prog 45 #[.pointer (some ⟨T,0,none⟩)] w λe w'=>∃p,e=.returned (qv (prQ xs es p))/\Below w.heap.size w w'/\PrOk n p/\∀q,PrOk n q->leQ (prQ xs es p) (prQ xs es q):=by
 have hpr:=λW(hb:Below w.heap.size w W)=>proof_any T n A c (prQ xs es) W hok.n2 hok.n8 (hL.later hb).cells.2.2 (hL.later hb).cells.1 (λp hp=>⟨(prQ_ok hok hp).1,(prQ_ok hok hp).2.1⟩) (λV p hb2 hp=>HP T A E n c ce xs es p V ((hL.later hb).later hb2) hok hp)
 have Hpr:=Lib.hid hpr
 have HL:=Lib.hid hL
 have HP:=Lib.hid HP
 have Hok:=Lib.hid hok
 clear hpr hL hok
 have hb0:Below w.heap.size w (w.alloc (.cells #[.int .i64 0,.int .i64 0] 59)):=balloc (brefl w) _
 have HB0:=Lib.hid hb0
 clear hb0
 go_enter Tryz.func45,Tryz.ntmps45
 go_wp2_with fail
 refine(Hpr.out _ HB0.out).mono ?_
 rintro e w1⟨p,rfl,hb1,hpok,hmin⟩
 have hbl:=Blk.new w 59 #[.int .i64 0,.int .i64 0]
 have HB1:=Lib.hid (Below.later HB0.out hb1)
 have HR1:=Lib.hid (hbl.later hb1)
 have Hmin:=Lib.hid hmin
 have Hpok:=Lib.hid hpok
 clear hb1 hbl hmin hpok
 go_wp2_with fail
 refine(HP.out T A E n c ce xs es p _ (HL.out.later HB1.out) Hok.out Hpok.out).mono ?_
 rintro e w2⟨rfl,hb2⟩
 have HB2:=Lib.hid (Below.later HB1.out hb2)
 have hR2:=HR1.out.later hb2
 have c0:w2.cell? ⟨w.heap.size,0,none⟩=some (.int .i64 0):=hR2.cell 0
 have c1:w2.cell? ⟨w.heap.size,1,none⟩=some (.int .i64 0):=hR2.cell 1
 have c2:=hR2.lt
 have c3:=hR2.frozen 0
 have c4:=hR2.frozen 1
 clear hb2 hR2
 go_wp2
 refine bodyPost_ret (v:=qv (prQ xs es p)) (by simp[results,Tryz.results45,go_sem,c0,c1]) rfl ⟨p,rfl,bset (bset HB2.out (p:=⟨w.heap.size,0,none⟩) (Nat.le_refl _) _) (p:=⟨w.heap.size,1,none⟩) (Nat.le_refl _) _,Hpok.out,Hmin.out⟩
end Go.Proofs.YtednconodjeniaaGreat.P
namespace Go.Proofs.YtednconodjeniaaGreat.P
open Go.RowKit Go.Shelf
set_option maxRecDepth 100000 in
set_option maxHeartbeats 1000000 in
theorem checkLog_ok(A E:Option Addr)(n c ce:Nat)(xs:List Int)(es:List Rg)(w:World)(ha:Sl 1 encI w w.heap.size A n c xs)(he:Sl 2 encR w w.heap.size E n ce es)(hok:LogOk n xs es):
 Calls Tryz.prog 108 #[.agg #[.slice A n c,.slice E n ce]] w λe w'=>e=.returned (.int .i64 0)/\Below w.heap.size w w':=by
 have hb:=Blk.new (w.alloc (.cells #[.slice A n c,.slice E n ce] 65)) 31 #[.slice E n ce]
 rw[World.size_alloc]at hb
 have hbel:Below w.heap.size w ((w.alloc (.cells #[.slice A n c,.slice E n ce] 65)).alloc (.cells #[.slice E n ce] 31)):=balloc (balloc (brefl w) _) _
 have hE:Eds ((w.alloc (.cells #[.slice A n c,.slice E n ce] 65)).alloc (.cells #[.slice E n ce] 31)) (w.heap.size+1) 1 n (λ_=>(E,ce,es)):=
  ⟨hb.lt,λi hi=>by obtain rfl:i=0:=(by omega);exact hb.cell 0,λi _=>he.later hbel⟩
 have Hp:=Lib.hid (placed_ok A n c (w.heap.size+1) 1 xs (λ_=>(E,ce,es)) _ (ha.later hbel) hE (by omega) (λ_ _=>hok) ⟨hok.n2,hok.n8⟩ (λx hx=>by obtain⟨i,hi⟩:=List.getElem?_of_mem hx;exact hok.at_ i x hi) hok.up)
 have Hb:=Lib.hid hbel
 clear hb hbel hE ha he hok
 go_enter Tryz.func108,Tryz.ntmps108
 go_wp2_with fail
 refine Hp.out.mono ?_
 rintro e w1⟨rfl,hb1⟩
 have HB1:=Lib.hid (Below.later Hb.out hb1)
 clear hb1
 go_wp2
 go_ret
 exact⟨rfl,HB1.out⟩
set_option maxRecDepth 100000 in
set_option maxHeartbeats 1000000 in
theorem open_ok(A E:Option Addr)(n c ce:Nat)(xs:List Int)(es:List Rg)(w:World)(ha:Sl 1 encI w w.heap.size A n c xs)(he:Sl 2 encR w w.heap.size E n ce es)(hok:LogOk n xs es):
 Calls Tryz.prog 46 #[.agg #[.slice A n c,.slice E n ce]] w λe w'=>∃T,e=.returned (.tuple #[.pointer (some ⟨T,0,none⟩),.int .i64 0])/\Below w.heap.size w w'/\Lat w' T A E n c ce xs es:=by
 have hbel:Below w.heap.size w (w.alloc (.cells #[.slice A n c,.slice E n ce] 65)):=balloc (brefl w) _
 have Hc:=Lib.hid (checkLog_ok A E n c ce xs es _ (ha.later hbel) (he.later hbel) hok)
 have HB:=Lib.hid hbel
 have Ha:=Lib.hid ha
 have He:=Lib.hid he
 have hbl:=Blk.new w 65 #[.slice A n c,.slice E n ce]
 have Hbl:=Lib.hid hbl
 clear hbel ha he hok hbl
 go_enter Tryz.func46,Tryz.ntmps46
 go_wp2_with fail
 refine Hc.out.mono ?_
 rintro e w1⟨rfl,hb1⟩
 have HB1:=Lib.hid (Below.later HB.out hb1)
 have hl1:=Hbl.out.later hb1
 have c0:w1.cell? ⟨w.heap.size,0,none⟩=some (.slice A n c):=hl1.cell 0
 have c1:w1.cell? ⟨w.heap.size,1,none⟩=some (.slice E n ce):=hl1.cell 1
 have c2:=hl1.lt
 clear hb1 hl1
 go_wp2
 have hbb:=balloc (brefl w1) (.cells #[.slice A n c,.slice E n ce] 101)
 refine bodyPost_ret (v:=.tuple #[.pointer (some ⟨w1.heap.size,0,none⟩),.int .i64 0]) (by simp[results,Tryz.results46,go_sem]) rfl ?_
 exact⟨_,rfl,Below.later HB1.out hbb,Blk.new _ _ _,Ha.out.later (Below.later HB1.out hbb),He.out.later (Below.later HB1.out hbb)⟩
set_option maxRecDepth 100000 in
set_option maxHeartbeats 1000000 in
theorem best_ok(HP:ProvesC)(A E:Option Addr)(n c ce:Nat)(xs:List Int)(es:List Rg)(w:World)(ha:Sl 1 encI w w.heap.size A n c xs)(he:Sl 2 encR w w.heap.size E n ce es)(hok:LogOk n xs es):
 Calls Tryz.prog 18 #[.agg #[.slice A n c,.slice E n ce]] w λe w'=>∃p,e=.returned (.tuple #[qv (prQ xs es p),.int .i64 0])/\Below w.heap.size w w'/\PrOk n p/\∀q,PrOk n q->leQ (prQ xs es p) (prQ xs es q):=by
 have hbel:Below w.heap.size w ((w.alloc (.cells #[.slice A n c,.slice E n ce] 65)).alloc (.cells #[.int .i64 0,.int .i64 0] 59)):=balloc (balloc (brefl w) _) _
 have Hc:=Lib.hid (open_ok A E n c ce xs es _ (ha.later hbel) (he.later hbel) hok)
 have HB:=Lib.hid hbel
 have hbl:=Blk.new (w.alloc (.cells #[.slice A n c,.slice E n ce] 65)) 59 #[.int .i64 0,.int .i64 0]
 rw[World.size_alloc]at hbl
 have Hbl:=Lib.hid hbl
 have Hbest:=Lib.hid (λT W(h:Lat W T A E n c ce xs es)=>lathe_best HP T A E n c ce xs es W h hok)
 clear hbel ha he hok hbl
 go_enter Tryz.func18,Tryz.ntmps18
 go_wp2_with fail
 refine Hc.out.mono ?_
 rintro e w1⟨T,rfl,hb1,hL⟩
 have HB1:=Lib.hid (Below.later HB.out hb1)
 have Hl1:=Lib.hid (Hbl.out.later hb1)
 have HL:=Lib.hid hL
 clear hb1 hL
 go_wp2_with fail
 refine(Hbest.out T _ HL.out).mono ?_
 rintro e w2⟨p,rfl,hb2,hpok,hmin⟩
 have HB2:=Lib.hid (Below.later HB1.out hb2)
 have hl2:=Hl1.out.later hb2
 have c0:w2.cell? ⟨w.heap.size+1,0,none⟩=some (.int .i64 0):=hl2.cell 0
 have c1:w2.cell? ⟨w.heap.size+1,1,none⟩=some (.int .i64 0):=hl2.cell 1
 have c2:=hl2.lt
 have c3:=hl2.frozen 0
 have c4:=hl2.frozen 1
 have Hmin:=Lib.hid hmin
 have Hpok:=Lib.hid hpok
 clear hb2 hl2 hmin hpok
 go_wp2
 refine bodyPost_ret (v:=.tuple #[qv (prQ xs es p),.int .i64 0]) (by simp[results,Tryz.results18,go_sem,c0,c1]) rfl ⟨p,rfl,bset (bset HB2.out (p:=⟨w.heap.size+1,0,none⟩) (by simp) _) (p:=⟨w.heap.size+1,1,none⟩) (by simp) _,Hpok.out,Hmin.out⟩
end Go.Proofs.YtednconodjeniaaGreat.P
