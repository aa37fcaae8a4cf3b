/- Peel: a map from proofs to fractions, as a plain set with values: what a store, a delete, a lookup make of it. -/
import Derived.Test.YtednconodjeniaaGreatSApiG
import Derived.RangeFuncKeeps
import Derived.Maps.OwnIn
import Derived.Maps.OwnSet
import Derived.Maps.Range
import Derived.DeepKeys3
import Derived.KernelRfl
namespace Go.Proofs.YtednconodjeniaaGreat.P
open Go.RowKit Go.Shelf
def byQ(n d:Int):Int×Int:=(n.tdiv (Int.gcd n d:Int),d.tdiv (Int.gcd n d:Int))
theorem gcd_pos{n d:Int}(hd:0<d):0<Int.gcd n d:=Int.gcd_pos_of_ne_zero_right _ (by omega)
theorem byQ_eq{n d:Int}(hd:0<d):0<(byQ n d).2/\(byQ n d).1*d=n*(byQ n d).2/\(byQ n d).2<=d/\(byQ n d).1.natAbs<=n.natAbs:=by
 have hg:=gcd_pos (n:=n) hd
 obtain⟨a,ha⟩:=Int.gcd_dvd_left n d
 obtain⟨b,hb⟩:=Int.gcd_dvd_right n d
 have hgi:(0:Int)<(Int.gcd n d:Int):=by omega
 unfold byQ
 obtain⟨g,hgg⟩:∃g:Int,(Int.gcd n d:Int)=g:=⟨_,rfl⟩
 rw[hgg]at ha hb hgi ⊢
 subst ha hb
 rw[Int.mul_tdiv_cancel_left _ (by omega),Int.mul_tdiv_cancel_left _ (by omega)]
 have hb0:0<b:=by
  rcases Int.lt_trichotomy 0 b with h|h|h
  ·exact h
  ·subst h;simp at hd
  ·have:=Int.mul_neg_of_pos_of_neg hgi h;omega
 refine⟨hb0,?_,?_,?_⟩
 ·show a*(g*b)=g*a*b
  rw[Int.mul_comm g a,Int.mul_assoc]
 ·have h1:1*b<=g*b:=Int.mul_le_mul_of_nonneg_right (by omega) (by omega)
  omega
 ·rw[Int.natAbs_mul]
  have h2:1*a.natAbs<=g.natAbs*a.natAbs:=Nat.mul_le_mul_right _ (by omega)
  omega
abbrev qv(q:Int×Int):Value:=.agg #[.int .i64 q.1,.int .i64 q.2]
def lessQ(a b:Int×Int):Bool:=decide (a.1*b.2<b.1*a.2)
structure QX(w W:World):Prop where
 bel:Below w.heap.size w W
 b0:Blk W w.heap.size 59 #[.int .i64 0,.int .i64 0]
theorem QX.later{w W W':World}(h:QX w W)(hb:Below W.heap.size W W'):QX w W':=⟨Below.later h.bel hb,h.b0.later hb⟩
set_option maxRecDepth 100000 in
set_option maxHeartbeats 2000000 in
theorem by_any(nu de:Int)(w:World)(hn:-1000000000<=nu/\nu<=1000000000)(hd:0<de/\de<=1000000000):
 Calls Tryz.prog 149 #[.int .i64 nu,.int .i64 de] w λe w'=>e=.returned (qv (byQ nu de))/\Below w.heap.size w w':=by
 have k1:IntKind.i64.wrap (-nu)=-nu:=by rw[IntKind.wrap_i64];omega
 obtain⟨D,rfl⟩:∃n:Nat,de=n:=⟨de.toNat,by omega⟩
 have hgp:=gcd_pos (n:=nu) hd.1
 obtain⟨g,hg⟩:∃g:Nat,Int.gcd nu (D:Int)=g:=⟨_,rfl⟩
 have hg1:Nat.gcd nu.natAbs D=g:=by rw[<-hg];rfl
 unfold byQ
 rw[hg]
 rw[hg]at hgp
 have hgd:g<=D:=by rw[<-hg1];exact Nat.le_of_dvd (by omega) (Nat.gcd_dvd_right _ _)
 have HB:=Lib.hid (show QX w (w.alloc (.cells #[.int .i64 0,.int .i64 0] 59))from⟨balloc (brefl w) _,Blk.new _ _ _⟩)
 have HG:=Lib.hid hg1
 have HD:=Lib.hid (show D<=1000000000 by omega)
 have hgd2:=Lib.hid hgd
 have HN:=Lib.hid hn
 have Hgp:=Lib.hid hgp
 clear hg hg1 hgd hd hn hgp
 obtain⟨A,hA⟩:∃A:Nat,nu.natAbs=A:=⟨_,rfl⟩
 have hmx:(if nu< -nu then-nu else nu)=(A:Int):=by split<;>omega
 have HA:=Lib.hid (show A<=1000000000 by have:=HN.out;omega)
 rw[hA]at HG
 clear hA
 go_enter Tryz.func149,Tryz.ntmps149
 go_wp2_with fail
 refine loop_n (λq a W=>a.defers=[]/\∃x y:Nat,y<=q/\Nat.gcd x y=g/\x<=1000000000/\y<=1000000000/\QX w W/\Fits (some (.int .i64 nu)::some (.int .i64 (D:Nat))::none::none::some (.pointer (some ⟨w.heap.size,0,none⟩))::some (.int .i64 (x:Nat))::some (.int .i64 (y:Nat))::none::none::none::none::none::none::none::none::none::none::none::none::none::none::none::none::none::none::[]) a.tmps.toList) D ?_ ?_
 ·refine⟨rfl,A,D,Nat.le_refl _,HG.out,HA.out,HD.out,HB.out,?_⟩
  repeat (first|exact fits_nil|refine fits_none ?_|refine fits_some ?_)
 clear HG HA hmx HB
 intro q a W hI K1 hK
 obtain⟨hds,x,y,hyq,hgc,hx,hy,hQ,hfit⟩:=hI
 obtain⟨f',hf'⟩:=fits_act hfit
 rw[hds]at hf'
 subst hf'
 clear hfit hds
 simp only[fillP,Nat.reduceAdd]
 by_cases hy0:0<y
 ·have i1:(0:Int)<(y:Int):=by omega
  have i0:¬((y:Int)=0):=by omega
  have i00:¬(y=0):=by omega
  have HQ:=Lib.hid hQ
  have i2:(x:Int).tmod (y:Int)=((x % y:Nat):Int):=by rw[Int.tmod_eq_emod_of_nonneg (by omega)];rfl
  have hm:=Nat.mod_lt x hy0
  have i3:IntKind.i64.wrap ((x % y:Nat):Int)=((x % y:Nat):Int):=by rw[IntKind.wrap_i64];omega
  have Hgc:=Lib.hid (show Nat.gcd y (x % y)=g by rw[<-hgc,Nat.gcd_comm x y,Nat.gcd_rec y x,Nat.gcd_comm])
  obtain⟨z,hz⟩:∃z,x % y=z:=⟨_,rfl⟩
  rw[hz]at i2 i3 hm Hgc
  clear hgc hz
  go_wp2_with fail
  refine dag 6 (by kernel_rfl) (by kernel_rfl) (.is ?_::.is ?_::.is ?_::.is ?_::.is ?_::.is ?_::[]) rfl ?sta ?oba
  case sta=>simp[Spec.ok]
  case oba=>
  intro env V hG
  iterate 6 (refine obls_is ?_ ?_;unfold doesAt;go_simp;(try go_bits);(first|(refine⟨brefl _,?_⟩;rfl)|rfl);intro K hK;go_simp;refine hK _ ?_;clear hK K)
  refine obls_nil (λ_=>?_)
  have HQ2:=Lib.hid (HQ.out.later hG)
  clear hG i1 i0 i00 i2 i3 hQ HQ
  go_wp2
  refine hK _ _ z (by omega) ⟨rfl,y,z,Nat.le_refl _,Hgc.out,by omega,by omega,HQ2.out,?_⟩
  repeat (first|exact fits_nil|refine fits_none ?_|refine fits_some ?_)
 ·obtain rfl:y=0:=by omega
  obtain rfl:x=g:=by rw[<-hgc];simp
  have hx0:=Hgp.out
  have j0:¬((x:Int)=0):=by omega
  have j00:¬(x=0):=by omega
  have hnn:=HN.out
  have hDD:=HD.out
  obtain⟨q1,hq1⟩:∃q1,nu.tdiv (x:Int)=q1:=⟨_,rfl⟩
  obtain⟨q2,hq2⟩:∃q2,(D:Int).tdiv (x:Int)=q2:=⟨_,rfl⟩
  have hb1:q1.natAbs<=nu.natAbs:=by rw[<-hq1,Int.natAbs_tdiv];exact Nat.div_le_self _ _
  have hb2:q2.natAbs<=D:=by rw[<-hq2,Int.natAbs_tdiv];exact Nat.div_le_self _ _
  have j1:IntKind.i64.wrap q1=q1:=by rw[IntKind.wrap_i64];omega
  have j2:IntKind.i64.wrap q2=q2:=by rw[IntKind.wrap_i64];omega
  have c0:=hQ.b0.cell 0
  have c1:=hQ.b0.cell 1
  have c2:=hQ.b0.lt
  have c3:=hQ.b0.frozen 0
  have c4:=hQ.b0.frozen 1
  have HQ:=Lib.hid hQ
  clear hK hgc hQ hb1 hb2
  go_wp2_with fail
  go_region
  go_wp2
  refine bodyPost_ret (v:=qv (q1,q2)) (by simp[results,Tryz.results149,go_sem,c0,c1]) rfl ⟨by rw[hq1,hq2],(bset (bset HQ.out.bel (p:=⟨w.heap.size,0,none⟩) (Nat.le_refl _) _) (p:=⟨w.heap.size,1,none⟩) (Nat.le_refl _) _).drew⟩
theorem mul_wrap{a b:Int}(ha:a.natAbs<=1000000000)(hb:b.natAbs<=1000000000):IntKind.i64.wrap (a*b)=a*b:=by
 have h:=Nat.mul_le_mul ha hb
 rw[<-Int.natAbs_mul]at h
 rw[IntKind.wrap_i64]
 omega
def smQ(q:Int×Int):Prop:=q.1.natAbs<=1000000000/\q.2.natAbs<=1000000000
set_option maxRecDepth 100000 in
set_option maxHeartbeats 1000000 in
theorem less_any(a b:Int×Int)(w:World)(ha:smQ a)(hb:smQ b):
 Calls Tryz.prog 153 #[qv a,qv b] w λe w'=>e=.returned (.bool (lessQ a b))/\Below w.heap.size w w':=by
 have k1:=mul_wrap ha.1 hb.2
 have k2:=mul_wrap hb.1 ha.2
 unfold lessQ
 obtain⟨a1,a2⟩:=a
 obtain⟨b1,b2⟩:=b
 dsimp only at k1 k2 ⊢
 obtain⟨x,hx⟩:∃x,a1*b2=x:=⟨_,rfl⟩
 obtain⟨y,hy⟩:∃y,b1*a2=y:=⟨_,rfl⟩
 rw[hx]at k1 ⊢
 rw[hy]at k2 ⊢
 clear ha hb
 go_enter Tryz.func153,Tryz.ntmps153
 go_wp2
 go_ret
 exact⟨rfl,balloc (balloc (brefl _) _) _⟩
structure Lat(W:World)(T:Nat)(A E:Option Addr)(n c ce:Nat)(xs:List Int)(es:List Rg):Prop where
 b0:Blk W T 101 #[.slice A n c,.slice E n ce]
 at_:Sl 1 encI W W.heap.size A n c xs
 ed:Sl 2 encR W W.heap.size E n ce es
theorem Lat.later{W W':World}{T:Nat}{A E:Option Addr}{n c ce:Nat}{xs:List Int}{es:List Rg}(h:Lat W T A E n c ce xs es)(hb:Below W.heap.size W W'):Lat W' T A E n c ce xs es:=⟨h.b0.later hb,h.at_.later hb,h.ed.later hb⟩
theorem Lat.cells{W:World}{T:Nat}{A E:Option Addr}{n c ce:Nat}{xs:List Int}{es:List Rg}(h:Lat W T A E n c ce xs es):W.cell? ⟨T,0,none⟩=some (.slice A n c)/\W.cell? ⟨T,1,none⟩=some (.slice E n ce)/\T<W.heap.size:=⟨h.b0.cell 0,h.b0.cell 1,h.b0.lt⟩
structure LogOk(n:Nat)(xs:List Int)(es:List Rg):Prop where
 n2:2<=n
 n8:n<=8
 xl:xs.length=n
 el:es.length=n
 at_:∀(i:Nat)(x:Int),xs[i]? =some x->0<=x/\x<=100
 up:∀(i j:Nat)(x y:Int),i<j->xs[i]? =some x->xs[j]? =some y->x<y
 ed:∀(i:Nat)(e:Rg),es[i]? =some e->-1000<=e.lo/\e.lo<=e.hi/\e.hi<=1000
theorem LogOk.x{n:Nat}{xs:List Int}{es:List Rg}(h:LogOk n xs es){i:Nat}(hi:i<n):0<=xs.getD i 0/\xs.getD i 0<=100:=by
 have hl:=h.xl
 rw[List.getD_eq_getElem?_getD,List.getElem?_eq_getElem (by omega)]
 exact h.at_ i _ (List.getElem?_eq_getElem (by omega))
theorem LogOk.lt{n:Nat}{xs:List Int}{es:List Rg}(h:LogOk n xs es){i j:Nat}(hij:i<j)(hj:j<n):xs.getD i 0<xs.getD j 0:=by
 have hl:=h.xl
 rw[List.getD_eq_getElem?_getD,List.getD_eq_getElem?_getD,List.getElem?_eq_getElem (by omega),List.getElem?_eq_getElem (by omega)]
 exact h.up i j _ _ hij (List.getElem?_eq_getElem (by omega)) (List.getElem?_eq_getElem (by omega))
theorem LogOk.e{n:Nat}{xs:List Int}{es:List Rg}(h:LogOk n xs es){i:Nat}(hi:i<n):-1000<=(es.getD i ⟨0,0⟩).lo/\(es.getD i ⟨0,0⟩).lo<=(es.getD i ⟨0,0⟩).hi/\(es.getD i ⟨0,0⟩).hi<=1000:=by
 have hl:=h.el
 rw[List.getD_eq_getElem?_getD,List.getElem?_eq_getElem (by omega)]
 exact h.ed i _ (List.getElem?_eq_getElem (by omega))
structure Pr where
 a:Nat
 b:Nat
 c:Nat
 s:Int
def encP(p:Pr):List Value:=[.int .i64 (p.a:Nat),.int .i64 (p.b:Nat),.int .i64 (p.c:Nat),.int .i64 p.s]
abbrev pv(p:Pr):Value:=.agg #[.int .i64 (p.a:Nat),.int .i64 (p.b:Nat),.int .i64 (p.c:Nat),.int .i64 p.s]
def PrOk(n:Nat)(p:Pr):Prop:=p.c<n/\((p.a=p.b/\p.b=p.c/\p.s=0)\/(p.a<p.b/\p.b<p.c/\(p.s=1\/p.s=2)))
def xAt(xs:List Int)(i:Nat):Int:=xs.getD i 0
def eAt(es:List Rg)(i:Nat):Rg:=es.getD i ⟨0,0⟩
def numV(xs:List Int)(es:List Rg)(p:Pr):Int:=
 if p.s=0 then(eAt es p.b).hi-(eAt es p.b).lo
 else if p.s=1 then((eAt es p.b).hi-(eAt es p.a).lo)*(xAt xs p.c-xAt xs p.b)+((eAt es p.b).hi-(eAt es p.c).lo)*(xAt xs p.b-xAt xs p.a)
 else((eAt es p.a).hi-(eAt es p.b).lo)*(xAt xs p.c-xAt xs p.b)+((eAt es p.c).hi-(eAt es p.b).lo)*(xAt xs p.b-xAt xs p.a)
def denV(xs:List Int)(p:Pr):Int:=if p.s=0 then 2 else 2*((xAt xs p.b-xAt xs p.a)+(xAt xs p.c-xAt xs p.b))
def prQ(xs:List Int)(es:List Rg)(p:Pr):Int×Int:=byQ (numV xs es p) (denV xs p)
end Go.Proofs.YtednconodjeniaaGreat.P
namespace Go.Proofs.YtednconodjeniaaGreat.P
open Go.RowKit Go.Shelf
attribute [local go_sem] Oper.semAt_some
abbrev P8(n:Nat):={p:Pr // PrOk n p}
def CovP(n:Nat)(R:Pr->Prop)(pre:List (P8 n)):Prop:=∀p,PrOk n p->R p->∃y∈pre,y.1=p
theorem CovP.yes{n:Nat}{R R':Pr->Prop}{pre:List (P8 n)}(h:CovP n R pre)(y:P8 n)(hR:∀p,PrOk n p->R' p->R p\/p=y.1):CovP n R' (pre++[y]):=by
 intro p hp hr
 rcases hR p hp hr with h1|h1
 ·obtain⟨z,hz,hz2⟩:=h p hp h1
  exact⟨z,by simp[hz],hz2⟩
 ·exact⟨y,by simp,h1.symm⟩
theorem CovP.congr{n:Nat}{R R':Pr->Prop}{pre:List (P8 n)}(h:CovP n R pre)(hR:∀p,PrOk n p->R' p->R p):CovP n R' pre:=λp hp hr=>h p hp (hR p hp hr)
def RgP(i:Nat)(p:Pr):Prop:=p.a<i
def RgQ(i k j:Nat)(p:Pr):Prop:=p.a<i\/(p.a=i/\(p.s=0\/p.b<k\/(p.b=k/\p.c<j)))
theorem pr_eq{p q:Pr}(h1:p.a=q.a)(h2:p.b=q.b)(h3:p.c=q.c)(h4:p.s=q.s):p=q:=by
 obtain⟨a,b,c,s⟩:=p
 obtain⟨a',b',c',s'⟩:=q
 simp only at h1 h2 h3 h4
 subst h1 h2 h3 h4
 rfl
set_option maxRecDepth 100000 in
set_option maxHeartbeats 4000000 in
theorem proofs1_in(m l B1 T n:Nat)(A:Option Addr)(c:Nat)(hn8:n<=8)(J Jx:List (P8 n)->World->Prop)(W:World)
 (hY:∀pre x W1,J pre W1->pre.length<2000->YieldAt Fence.wide (m-1) Tryz.prog l #[pv x.1] W1 λe W'=>
   (e=.returned (.bool true)/\J (pre++[x]) W'/\True)\/(e=.returned (.bool false)/\Jx (pre++[x]) W'))
 (h1:W.cell? ⟨B1,0,none⟩=some (.pointer (some ⟨T,0,none⟩)))(h2:W.cell? ⟨T,0,none⟩=some (.slice A n c))(h0:J [] W):
 CallsIn Fence.wide m Tryz.prog 180 #[.func (.yield l) #[] #[],.pointer (some ⟨B1,0,none⟩)] W λe W'=>(∃v,e=.returned v)/\
  ((∃ys,(CovP n (λ_=>True) ys/\ys.length<=2000)/\J ys W')\/(∃pre,True/\Jx pre W')):=by
 have HY:=Lib.hid hY
 have H0:=Lib.hid h0
 clear hY h0
 refine callsIn_of_wp Tryz.func180 rfl trivial ?_ rfl
 simp only[Tryz.ntmps180,List.size_toArray,List.length_cons,List.length_nil,Nat.reduceAdd,Nat.reduceSub,Array.replicate_succ,Array.replicate_zero,List.push_toArray,List.append_toArray,List.nil_append,List.cons_append]
 gi_wp2
 clear h1 h2
 gi_loopw [14] (λv wr=>∃(i:Nat)(pre:List (P8 n)),i<=n/\v=.int .i64 i/\J pre wr/\pre.length<=i*129/\CovP n (RgP i) pre)
  (λv _=>n-(intOf v).toNat)
 case atStart=>exact⟨0,[],Nat.zero_le _,rfl,H0.out,by simp,λp _ h=>by unfold RgP at h;omega⟩
 case round=>
  obtain⟨i,pre,hi,rfl,hJs,hpl,hcov⟩:=hrel
  have HJs:=Lib.hid hJs
  have Hcov:=Lib.hid hcov
  have Hpl:=Lib.hid hpl
  clear hJs hcov hpl
  by_cases hlt:i<n
  ·have hp0:PrOk n ⟨i,i,i,0⟩:=⟨hlt,.inl ⟨rfl,rfl,rfl⟩⟩
   obtain⟨fn',tmps',assign',body',hy,hR⟩:=HY.out pre ⟨⟨i,i,i,0⟩,hp0⟩ _ HJs.out (by have:=Hpl.out;omega)
   dsimp only at hy
   have HR3:=Lib.hid hR
   clear hR
   gi_wp2
   refine⟨λh=>(by simp[Fence.wide]at h),?_⟩
   refine HR3.out.mono ?_
   rintro e W3(⟨rfl,hJ4,_⟩|⟨rfl,hJx4⟩)
   ·have hc4:CovP n (RgQ i (i+1) 0) (pre++[⟨⟨i,i,i,0⟩,hp0⟩]):=Hcov.out.yes _ (λp hp h=>by
     unfold RgQ at h
     unfold RgP
     rcases hp.2 with⟨h1,h2,h3⟩|⟨h1,h2,h3⟩
     ·by_cases e:p.a=i
      ·exact .inr (pr_eq e (by show p.b=i;omega) (by show p.c=i;omega) h3)
      ·exact .inl (by omega)
     ·exact .inl (by omega))
    have hp4:(pre++[(⟨⟨i,i,i,0⟩,hp0⟩:P8 n)]).length<=i*129+1:=by have:=Hpl.out;simp;omega
    obtain⟨pre2,hpre2⟩:∃pre2,pre++[(⟨⟨i,i,i,0⟩,hp0⟩:P8 n)]=pre2:=⟨_,rfl⟩
    rw[hpre2]at hc4 hp4 hJ4
    have HJ4:=Lib.hid hJ4
    have Hc4:=Lib.hid hc4
    have Hp4:=Lib.hid hp4
    clear hJ4 hc4 hp4 hpre2 hy HR3 HJs
    gi_wp2
    gi_loopw [5] (λv w2=>∃(k:Nat)(pr2:List (P8 n)),i+1<=k/\k<=n/\v=.int .i64 k/\J pr2 w2/\pr2.length<=i*129+1+k*16/\CovP n (RgQ i k 0) pr2)
     (λv _=>n-(intOf v).toNat)
    case atStart=>exact⟨i+1,pre2,Nat.le_refl _,by omega,by go_num,HJ4.out,by have:=Hp4.out;omega,Hc4.out⟩
    case round=>
     obtain⟨k,pr2,hik,hk,rfl,hJ2,hp2,hc2⟩:=hrel
     have HJ2:=Lib.hid hJ2
     have Hc2:=Lib.hid hc2
     have Hp2:=Lib.hid hp2
     clear hJ2 hc2 hp2
     by_cases hlt2:k<n
     ·gi_wp2
      gi_loopw [6] (λv w2=>∃(j:Nat)(pr3:List (P8 n)),k+1<=j/\j<=n/\v=.int .i64 j/\J pr3 w2/\pr3.length<=i*129+1+k*16+2*j/\CovP n (RgQ i k j) pr3)
       (λv _=>n-(intOf v).toNat)
      case atStart=>exact⟨k+1,pr2,Nat.le_refl _,by omega,by go_num,HJ2.out,by have:=Hp2.out;omega,Hc2.out.congr (λp hp h=>by have:=hp.2;unfold RgQ at*;omega)⟩
      case round=>
       obtain⟨j,pr3,hkj,hj,rfl,hJ3,hp3,hc3⟩:=hrel
       have HJ3:=Lib.hid hJ3
       have Hc3:=Lib.hid hc3
       have Hp3:=Lib.hid hp3
       clear hJ3 hc3 hp3
       by_cases hlt3:j<n
       ·have hp1:PrOk n ⟨i,k,j,1⟩:=⟨hlt3,.inr ⟨by show i<k;omega,by show k<j;omega,.inl rfl⟩⟩
        have hp2:PrOk n ⟨i,k,j,2⟩:=⟨hlt3,.inr ⟨by show i<k;omega,by show k<j;omega,.inr rfl⟩⟩
        obtain⟨fn1,tmps1,assign1,body1,hy1,hR1⟩:=HY.out pr3 ⟨⟨i,k,j,1⟩,hp1⟩ _ HJ3.out (by have:=Hp3.out;omega)
        dsimp only at hy1
        have HR1:=Lib.hid hR1
        clear hR1
        gi_wp2
        refine⟨λh=>(by simp[Fence.wide]at h),?_⟩
        refine HR1.out.mono ?_
        rintro e W4(⟨rfl,hJ5,_⟩|⟨rfl,hJx5⟩)
        ·obtain⟨fn2,tmps2,assign2,body2,hy2,hR2⟩:=HY.out (pr3++[⟨⟨i,k,j,1⟩,hp1⟩]) ⟨⟨i,k,j,2⟩,hp2⟩ _ hJ5 (by have:=Hp3.out;simp;omega)
         dsimp only at hy2
         have HR2:=Lib.hid hR2
         clear hR2 hJ5 hy1 HR1
         gi_wp2
         refine⟨λh=>(by simp[Fence.wide]at h),?_⟩
         refine HR2.out.mono ?_
         rintro e W5(⟨rfl,hJ6,_⟩|⟨rfl,hJx6⟩)
         ·have HJ6:=Lib.hid hJ6
          have Hc6:=Lib.hid (show CovP n (RgQ i k (j+1)) ((pr3++[⟨⟨i,k,j,1⟩,hp1⟩])++[⟨⟨i,k,j,2⟩,hp2⟩])from
           (Hc3.out.yes (R':=λp=>RgQ i k j p\/p=⟨i,k,j,1⟩) ⟨⟨i,k,j,1⟩,hp1⟩ (λp _ h=>h)).yes _ (λp hp h=>by
             unfold RgQ at h ⊢
             by_cases e:p.a=i/\p.b=k/\p.c=j
             ·rcases hp.2 with⟨h1,h2,h3⟩|⟨h1,h2,h3|h3⟩
              ·exact .inl (.inl (by omega))
              ·exact .inl (.inr (pr_eq e.1 e.2.1 e.2.2 h3))
              ·exact .inr (pr_eq e.1 e.2.1 e.2.2 h3)
             ·exact .inl (.inl (by omega))))
          clear hJ6 hy2 HR2
          gi_wp2
          go_roundw
          case rel=>exact⟨j+1,_,by omega,by omega,by go_num,HJ6.out,by have:=Hp3.out;simp;omega,Hc6.out⟩
          case measure=>simp[intOf];omega
         ·have HJx6:=Lib.hid hJx6
          clear hJx6 hy2 HR2
          gi_wp2
          refine bodyPost_ret (results_none rfl _ _ _) rfl ?_
          exact⟨⟨_,rfl⟩,.inr ⟨_,trivial,HJx6.out⟩⟩
        ·have HJx5:=Lib.hid hJx5
         clear hJx5 hy1 HR1
         gi_wp2
         refine⟨λ_ h=>(by cases h),?_⟩
         gi_wp2
         refine bodyPost_ret (results_none rfl _ _ _) rfl ?_
         exact⟨⟨_,rfl⟩,.inr ⟨_,trivial,HJx5.out⟩⟩
       ·obtain rfl:j=n:=by omega
        have Hc7:=Lib.hid (show CovP j (RgQ i (k+1) 0) pr3 from Hc3.out.congr (λp hp h=>by have:=hp.1;unfold RgQ at*;omega))
        gi_wp2
        go_roundw
        case rel=>exact⟨k+1,_,by omega,by omega,by go_num,HJ3.out,by have:=Hp3.out;omega,Hc7.out⟩
        case measure=>simp[intOf];omega
     ·obtain rfl:k=n:=by omega
      have Hc7:=Lib.hid (show CovP k (RgP (i+1)) pr2 from Hc2.out.congr (λp hp h=>by have:=hp.1;have:=hp.2;unfold RgP at h;unfold RgQ;omega))
      gi_wp2
      go_roundw
      case rel=>exact⟨i+1,_,by omega,by go_num,HJ2.out,by have:=Hp2.out;omega,Hc7.out⟩
      case measure=>simp[intOf];omega
   ·have HJx4:=Lib.hid hJx4
    clear hJx4
    gi_wp2
    refine bodyPost_ret (results_none rfl _ _ _) rfl ?_
    exact⟨⟨_,rfl⟩,.inr ⟨_,trivial,HJx4.out⟩⟩
  ·obtain rfl:i=n:=by omega
   gi_wp2
   go_end0
   exact⟨⟨_,rfl⟩,.inl ⟨_,⟨Hcov.out.congr (λp hp _=>by have:=hp.1;have:=hp.2;unfold RgP;omega),by have:=Hpl.out;omega⟩,HJs.out⟩⟩
end Go.Proofs.YtednconodjeniaaGreat.P
namespace Go.Proofs.YtednconodjeniaaGreat.P
open Go.RowKit Go.Shelf Go.Maps
abbrev DP:=DataW Value
def rdQ(v:Value):Option (DP×List MemPlace):=some (.held v,[])
theorem keyed_pr:Keyed Tryz.prog 120:=Keyed.of_law (deep_law (m:=4) (by omega) (by kernel_rfl) (by kernel_rfl) (by kernel_rfl))
theorem wf_i64{x:Int}(h:-1000000<=x/\x<=1000000):(Lit.int .i64 x).wf=true:=by
 have h1:IntKind.i64.min=-9223372036854775808:=by decide
 have h2:IntKind.i64.max=9223372036854775807:=by decide
 simp[Lit.wf,h1,h2];omega
theorem lits_pr(n:Nat)(a b c d:Int)(ha:(Lit.int .i64 a).wf=true)(hb:(Lit.int .i64 b).wf=true)(hc:(Lit.int .i64 c).wf=true)(hd:(Lit.int .i64 d).wf=true):
 Tryz.prog.keyLits (n+1+1) 120 [.int .i64 a,.int .i64 b,.int .i64 c,.int .i64 d]=some [.int .i64 a,.int .i64 b,.int .i64 c,.int .i64 d]:=by
 have c1:Tryz.prog.cellsOf 120=4:=by kernel_rfl
 have c3:Tryz.prog.cellsOf 3=1:=by kernel_rfl
 have hl:∀x:Int,(Lit.int .i64 x).wf=true->Tryz.prog.keyLits (n+1) 3 [.int .i64 x]=some [.int .i64 x]:=λx hx=>by simp[Program.keyLits,Tryz.underlying3,hx]
 conv=>lhs;unfold Program.keyLits
 simp only[Tryz.underlying120,c1,c3,hl a ha,hl b hb,hl c hc,hl d hd,List.length_cons,List.length_nil,List.mapM_cons,List.mapM_nil,List.drop_zero,List.drop_succ_cons,List.take_succ_cons,List.take_zero]
 rw[if_pos ⟨trivial,by kernel_rfl⟩]
 rfl
noncomputable def keyP(p:Pr):Lit:=.string (keyBytes [.int .i64 (p.a:Nat),.int .i64 (p.b:Nat),.int .i64 (p.c:Nat),.int .i64 p.s])
theorem keyP_of{n:Nat}{p:Pr}(hn:n<=8)(hp:PrOk n p):keyOf Tryz.prog 120 (pv p)=some (keyP p):=by
 have h1:Tryz.prog.keyType 120=true:=by kernel_rfl
 have h2:∃n,Tryz.prog.types.size+1=n+1+1:=⟨Tryz.prog.types.size-1,by kernel_rfl⟩
 obtain⟨k,hk⟩:=h2
 have c1:Tryz.prog.cellsOf 120=4:=by kernel_rfl
 obtain⟨a,b,c,s⟩:=p
 unfold PrOk at hp
 dsimp only at hp
 have hl:=lits_pr k (a:Nat) (b:Nat) (c:Nat) s (wf_i64 (by omega)) (wf_i64 (by omega)) (wf_i64 (by omega)) (wf_i64 (by omega))
 unfold keyOf
 rw[hk]
 simp only[Tryz.underlying120,h1,Value.formed,c1,Value.cells,hl]
 rfl
theorem keyP_inj{n:Nat}{p q:Pr}(hn:n<=8)(hp:PrOk n p)(hq:PrOk n q)(h:keyP p=keyP q):p=q:=by
 have h1:=keyed_pr.inj (keyP_of hn hp) (h▸keyP_of hn hq)
 obtain⟨a,b,c,s⟩:=p
 obtain⟨a',b',c',s'⟩:=q
 simp at h1
 obtain⟨h1,h2,h3,h4⟩:=h1
 obtain rfl:a=a':=by omega
 obtain rfl:b=b':=by omega
 obtain rfl:c=c':=by omega
 obtain rfl:s=s':=by omega
 rfl
structure MapIs(n:Nat)(D:DP)(S:Pr->Prop)(wt:Pr->Int×Int):Prop where
 isMap:IsMap D
 yes:∀p,S p->has D (keyP p)=true/\∀z,D.atKey (keyP p) z=.held (qv (wt p))
 only:∀z,has D z=true->∃p,z=keyP p/\S p
 ok:∀p,S p->PrOk n p
section
variable{n:Nat}{D:DP}{S S':Pr->Prop}{wt:Pr->Int×Int}
theorem MapIs.empty(n:Nat)(wt:Pr->Int×Int):MapIs n (.map []) (λ_=>False) wt:=⟨isMap_empty,λ_ h=>h.elim,λz h=>by simp[has]at h,λ_ h=>h.elim⟩
theorem MapIs.congr(h:MapIs n D S wt)(hS:∀p,S p↔S' p):MapIs n D S' wt:=
 ⟨h.isMap,λp hs=>h.yes p ((hS p).2 hs),λz hz=>by obtain⟨p,e,hs⟩:=h.only z hz;exact⟨p,e,(hS p).1 hs⟩,λp hs=>h.ok p ((hS p).2 hs)⟩
theorem MapIs.put(h:MapIs n D S wt)(hn:n<=8)(p:Pr)(hp:PrOk n p):MapIs n (D.put (keyP p) (.held (qv (wt p)))) (λq=>S q\/q=p) wt:=by
 have hkl:=keyed_pr.key (keyP_of hn hp)
 refine⟨h.isMap.put _ _,λq hs=>?_,λz hz=>?_,λq hs=>?_⟩
 ·by_cases e:q=p
  ·subst e
   exact⟨has_put_same h.isMap hkl _,λz=>atKey_put_same h.isMap hkl _ _⟩
  ·have hs:=hs.resolve_right e
   have hne:keyP q≠keyP p:=λe'=>e (keyP_inj hn (h.ok _ hs) hp e')
   rw[has_put_other hne]
   exact⟨(h.yes _ hs).1,λz=>by rw[atKey_put_other hne];exact(h.yes _ hs).2 z⟩
 ·by_cases e:z=keyP p
  ·exact⟨p,e,.inr rfl⟩
  ·rw[has_put_other e]at hz
   obtain⟨q,e',hs⟩:=h.only z hz
   exact⟨q,e',.inl hs⟩
 ·rcases hs with hs|rfl
  ·exact h.ok _ hs
  ·exact hp
theorem MapIs.del(h:MapIs n D S wt)(hn:n<=8)(p:Pr)(hp:PrOk n p):MapIs n (D.del (keyP p)) (λq=>S q/\¬q=p) wt:=by
 refine⟨h.isMap.del _,λq hs=>?_,λz hz=>?_,λq hs=>h.ok _ hs.1⟩
 ·obtain⟨hs,e⟩:=hs
  have hne:keyP q≠keyP p:=λe'=>e (keyP_inj hn (h.ok _ hs) hp e')
  rw[has_del_other hne]
  exact⟨(h.yes _ hs).1,λz=>by rw[atKey_del_other hne];exact(h.yes _ hs).2 z⟩
 ·by_cases e:z=keyP p
  ·subst e;rw[has_del_same]at hz;cases hz
  ·rw[has_del_other e]at hz
   obtain⟨q,e',hs⟩:=h.only z hz
   refine⟨q,e',hs,?_⟩
   rintro rfl
   exact e e'
theorem MapIs.not(h:MapIs n D S wt)(hn:n<=8){p:Pr}(hp:PrOk n p)(hs:¬S p):has D (keyP p)=false:=by
 cases hh:has D (keyP p)with
 |false=>rfl
 |true=>
  obtain⟨q,e,hq⟩:=h.only _ hh
  exact absurd (keyP_inj hn hp (h.ok _ hq) e▸hq) hs
end
abbrev OwnsM(W:World)(b k:Nat)(D:DP):Prop:=W.ownsMap Tryz.prog 120 rdQ b k D
abbrev RangesM(W:World)(b r k:Nat)(D:DP)(left:Lit->Bool)(cnt:Nat):Prop:=W.ranges Tryz.prog 120 rdQ b r k D left cnt
theorem und_mpr:Tryz.prog.underlying 199=some (.map 120 59):=by kernel_rfl
theorem run_zeroValue{P:Program}{t:TypeId}{i:TypeInfo}{z:Value}(h:P.info? t=some i)(hz:i.zero=some z)(W:World):(zeroValue t).run P W=.ok z W:=by
 simp[zeroValue,typeInfo,h,hz]
theorem zero_ratio(W:World):(zeroValue 59).run Tryz.prog W=.ok (qv (0,0)) W:=by
 have h:(Tryz.prog.info? 59).map (λi=>i.zero)=some (some (qv (0,0))):=by kernel_rfl
 cases hi:Tryz.prog.info? 59 with
 |none=>simp[hi]at h
 |some i=>
  simp only[hi,Option.map_some,Option.some.injEq]at h
  exact run_zeroValue hi h W
noncomputable def lookP(S:Pr->Prop)(wt:Pr->Int×Int)(p:Pr):Int×Int:=by
 classical exact if S p then wt p else(0,0)
theorem lookP_yes{S:Pr->Prop}{wt:Pr->Int×Int}{p:Pr}(h:S p):lookP S wt p=wt p:=by unfold lookP;rw[if_pos h]
theorem lookP_no{S:Pr->Prop}{wt:Pr->Int×Int}{p:Pr}(h:¬S p):lookP S wt p=(0,0):=by unfold lookP;rw[if_neg h]
theorem look_run{W:World}{b k n:Nat}{D:DP}{S:Pr->Prop}{wt:Pr->Int×Int}(ho:OwnsM W b k D)(h:MapIs n D S wt)(hn:n<=8){p:Pr}(hp:PrOk n p):
 (Instr.lookup 199 (.map (some b)) (pv p) false).run Tryz.prog W=.ok (qv (lookP S wt p)) W:=by
 obtain⟨v,ps,hrun,hv⟩:=ho.lookup keyed_pr und_mpr (zero_ratio W) (zd:=.held (qv (0,0))) (zp:=[]) rfl (keyP_of hn hp)
 have e1:D.atKey (keyP p) (.held (qv (0,0)))=.held (qv (lookP S wt p)):=by
  by_cases hs:S p
  ·rw[(h.yes p hs).2,lookP_yes hs]
  ·rw[atKey_of_not_has (h.not hn hp hs),lookP_no hs]
 rw[e1]at hv
 unfold rdQ at hv
 simp only[Option.some.injEq,Prod.mk.injEq,DataW.held.injEq]at hv
 rw[hrun,hv.1]
end Go.Proofs.YtednconodjeniaaGreat.P
