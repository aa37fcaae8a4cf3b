/- Patch: the bench of a valid sheet. -/
import Derived.Test.YtifehdoghfnhoaaGreatDoorZEvLg
import Derived.Test.YtifehdoghfnhoaaGreatDoorZSThree
import Derived.Test.YtifehdoghfnhoaaGreatDoorZCFirst
import Derived.PlainAid
import Derived.Test.YtifehdoghfnhoaaGreatDoorZEvZ
namespace Go.Proofs.YtifehdoghfnhoaaGreatDoor.Pa
open Go.RowKit Go.Shelf Go.Proofs.YtifehdoghfnhoaaGreatDoor.C
def rowc(h:Nat->Nat->Bool)(a c:Nat):Nat:=((List.range c).filter (h a)).length
def cntF(h:Nat->Nat->Bool):Nat->Nat->Nat
 |0,_=>0
 |r+1,c=>cntF h r c+rowc h r c
theorem rowc_succ(h:Nat->Nat->Bool)(a c:Nat):rowc h a (c+1)=rowc h a c+if h a c then 1 else 0:=by
 unfold rowc
 rw[List.range_succ,List.filter_append,List.length_append]
 cases hx:h a c<;>simp[hx]
theorem rowc_le(h:Nat->Nat->Bool)(a c:Nat):rowc h a c<=c:=by
 unfold rowc
 have:=List.length_filter_le (h a) (List.range c)
 simpa using this
theorem cntF_le(h:Nat->Nat->Bool):∀r c,cntF h r c<=r*c
 |0,c=>by simp[cntF]
 |r+1,c=>by
  have h1:=cntF_le h r c
  have h2:=rowc_le h r c
  rw[cntF,Nat.succ_mul]
  omega
theorem cntF_zero(h:Nat->Nat->Bool):∀r,cntF h r 0=0
 |0=>rfl
 |r+1=>by rw[cntF,cntF_zero h r];rfl
theorem cntF_step(h:Nat->Nat->Bool)(r c:Nat):cntF h (r+1) (c+1)+cntF h r c=cntF h (r+1) c+cntF h r (c+1)+if h r c then 1 else 0:=by
 simp only[cntF,rowc_succ]
 omega
def figC(h:Nat->Nat->Bool)(cn i k:Nat)(x:Nat):Nat:=if x / 7=0\/x % 7=0\/cn<x % 7 then 0 else if x / 7<=i\/x / 7=i+1/\x % 7<=k then cntF h (x / 7) (x % 7)else 0
theorem figC_zero(h:Nat->Nat->Bool)(cn:Nat):figC h cn 0 0=λ_=>0:=by
 funext x
 unfold figC
 split
 ·rfl
 ·rw[if_neg (by omega)]
theorem figC_row(h:Nat->Nat->Bool)(cn i:Nat):figC h cn i cn=figC h cn (i+1) 0:=by
 funext x
 unfold figC
 split
 ·rfl
 ·by_cases e:x / 7<=i+1
  ·rw[if_pos (by omega),if_pos (by omega)]
  ·rw[if_neg (by omega),if_neg (by omega)]
theorem figC_at{h:Nat->Nat->Bool}{cn i k r c:Nat}(hc:c<=cn)(h6:cn<=6)(hr:r<=i\/r=i+1/\c<=k):figC h cn i k (7*r+c)=cntF h r c:=by
 have e1:(7*r+c) / 7=r:=by omega
 have e2:(7*r+c) % 7=c:=by omega
 unfold figC
 rw[e1,e2]
 by_cases e:r=0\/c=0
 ·rw[if_pos (by omega)]
  rcases e with rfl|rfl
  ·rfl
  ·rw[cntF_zero]
 ·rw[if_neg (by omega),if_pos hr]
def updF(F:Nat->Nat)(j x:Nat):Nat->Nat:=λi=>if i=j then x else F i
theorem figC_set{h:Nat->Nat->Bool}{cn i k:Nat}(hk:k<cn)(h6:cn<=6):updF (figC h cn i k) (7*(i+1)+(k+1)) (cntF h (i+1) (k+1))=figC h cn i (k+1):=by
 funext x
 unfold updF
 by_cases e:x=7*(i+1)+(k+1)
 ·subst e
  rw[if_pos rfl,figC_at (by omega) h6 (by omega)]
 ·rw[if_neg e]
  unfold figC
  split
  ·rfl
  ·by_cases e2:x / 7<=i\/x / 7=i+1/\x % 7<=k
   ·rw[if_pos e2,if_pos (by omega)]
   ·rw[if_neg e2,if_neg (by omega)]
theorem figC_le(h:Nat->Nat->Bool)(cn i k:Nat){x:Nat}(hx:x<49):figC h cn i k x<=1000:=by
 unfold figC
 split
 ·omega
 ·split
  ·have h1:=cntF_le h (x / 7) (x % 7)
   have h2:x / 7*(x % 7)<=6*6:=Nat.mul_le_mul (by omega) (by omega)
   omega
  ·omega
def knN(o:Nat->Nat->Bool)(cn:Nat):Nat->Nat->List (Nat×Nat)
 |0,k=>((List.range k).filter (o 0)).map λc=>(0,c)
 |i+1,k=>knN o cn i cn++((List.range k).filter (o (i+1))).map λc=>(i+1,c)
theorem knN_row(o:Nat->Nat->Bool)(cn i:Nat):knN o cn (i+1) 0=knN o cn i cn:=by simp[knN]
theorem knN_yes{o:Nat->Nat->Bool}{cn i k:Nat}(h:o i k=true):knN o cn i (k+1)=knN o cn i k++[(i,k)]:=by
 cases i<;>simp[knN,List.range_succ,h]
theorem knN_no{o:Nat->Nat->Bool}{cn i k:Nat}(h:o i k=false):knN o cn i (k+1)=knN o cn i k:=by
 cases i<;>simp[knN,List.range_succ,h]
theorem knN_len(o:Nat->Nat->Bool)(cn:Nat):∀i k,(knN o cn i k).length<=i*cn+k
 |0,k=>by
  have:=List.length_filter_le (o 0) (List.range k)
  simp[knN]
  simpa using this
 |i+1,k=>by
  have h1:=knN_len o cn i cn
  have h2:=List.length_filter_le (o (i+1)) (List.range k)
  simp only[List.length_range]at h2
  rw[knN,List.length_append,List.length_map,Nat.succ_mul]
  omega
end Go.Proofs.YtifehdoghfnhoaaGreatDoor.Pa
namespace Go.Proofs.YtifehdoghfnhoaaGreatDoor.Pa
open Go.RowKit Go.Shelf Go.Proofs.YtifehdoghfnhoaaGreatDoor.C Go.PlainAid
def encB8(s:ByteArray):List Value:=[.string s]
theorem ltB8{W:World}{B:Nat}{A:Option Addr}{n c:Nat}{xs:List ByteArray}(h:Sl 1 encB8 W B A n c xs){i:Nat}(hi:i<n):∃b o s,A=some ⟨b,o,none⟩/\b<B/\xs[i]? =some s/\W.cell? ⟨b,o+i,none⟩=some (.string s):=by
 obtain⟨b,o,r,hA,hB,hx,hc⟩:=h.lt hi
 exact⟨b,o,r,hA,hB,hx,by simpa using hc 0 _ rfl⟩
def encCl(p:Nat×Nat):List Value:=[.int .i64 (p.1:Nat),.int .i64 (p.2:Nat)]
@[irreducible] def figI (F:Nat->Nat):Array Value:=figA F
theorem figI_is(F:Nat->Nat):figI F=figA F:=by unfold figI;rfl
def benchA(RA:Option Addr)(rn rc most:Nat)(v:Value)(F:Nat->Nat):Array Value:=#[.slice RA rn rc,.int .i64 (most:Nat),v]++figI F
section
variable{RA:Option Addr}{rn rc most:Nat}{v:Value}{F:Nat->Nat}
theorem figI_size(F:Nat->Nat):(figI F).size=49:=by rw[figI_is];simp[figA]
theorem benchA_size:(benchA RA rn rc most v F).size=52:=by simp[benchA,figI_size]
theorem benchA_low{i:Nat}(hi:i<3):(benchA RA rn rc most v F)[i]? =(#[.slice RA rn rc,.int .i64 (most:Nat),v]:Array Value)[i]? :=by
 unfold benchA
 rw[Array.getElem?_append_left (by simpa using hi)]
theorem benchA_get{i:Nat}(hi:i<49):(benchA RA rn rc most v F)[3+i]? =some (.int .i64 (F i:Nat)):=by
 unfold benchA
 rw[Array.getElem?_append_right (by simp),show 3+i-(#[Value.slice RA rn rc,.int .i64 (most:Nat),v]:Array Value).size=i by simp,figI_is,figA_get F hi]
theorem benchA_knots(v':Value):(benchA RA rn rc most v F).setIfInBounds 2 v'=benchA RA rn rc most v' F:=by
 apply Array.ext_getElem?
 intro i
 by_cases e:i=2
 ·subst e
  rw[Array.getElem?_setIfInBounds_self_of_lt (by rw[benchA_size];omega),benchA_low (by omega)]
  rfl
 ·rw[Array.getElem?_setIfInBounds_ne (by omega)]
  by_cases h:i<3
  ·rw[benchA_low h,benchA_low h]
   match i,h,e with
   |0,_,_=>rfl
   |1,_,_=>rfl
   |2,_,e=>exact absurd rfl e
  ·obtain⟨d,rfl⟩:∃d,i=3+d:=⟨i-3,by omega⟩
   by_cases hd:d<49
   ·rw[benchA_get hd,benchA_get hd]
   ·rw[Array.getElem?_eq_none (by rw[benchA_size];omega),Array.getElem?_eq_none (by rw[benchA_size];omega)]
theorem benchA_put{j:Nat}(x:Nat)(hj:j<49):(benchA RA rn rc most v F).setIfInBounds (3+j) (.int .i64 (x:Nat))=benchA RA rn rc most v (updF F j x):=by
 apply Array.ext_getElem?
 intro i
 by_cases e:i=3+j
 ·subst e
  rw[Array.getElem?_setIfInBounds_self_of_lt (by rw[benchA_size];omega),benchA_get hj]
  simp[updF]
 ·rw[Array.getElem?_setIfInBounds_ne (by omega)]
  by_cases h:i<3
  ·rw[benchA_low h,benchA_low h]
  ·obtain⟨d,rfl⟩:∃d,i=3+d:=⟨i-3,by omega⟩
   by_cases hd:d<49
   ·rw[benchA_get hd,benchA_get hd]
    simp[updF,show d≠j by omega]
   ·rw[Array.getElem?_eq_none (by rw[benchA_size];omega),Array.getElem?_eq_none (by rw[benchA_size];omega)]
end
def atB(rows:List ByteArray)(x:Int)(a b:Nat):Bool:=match rows[a]? with
 |some s=>decide (bt s b=x)
 |none=>false
structure NB(w W:World)(T:Nat)(RA:Option Addr)(rn rc most:Nat)(v:Value)(F:Nat->Nat)(ks:List (Nat×Nat)):Prop where
 bel:Below w.heap.size w W
 b:Blk W T 88 (benchA RA rn rc most v F)
 own:W.ownsRow w.heap.size 90 2 v ks.length (ks.flatMap encCl)
 hT:w.heap.size<=T
section
variable{w W W':World}{T:Nat}{RA:Option Addr}{rn rc most:Nat}{v v':Value}{F:Nat->Nat}{ks:List (Nat×Nat)}
theorem NB.later(h:NB w W T RA rn rc most v F ks)(hb:Below W.heap.size W W'):NB w W' T RA rn rc most v F ks:=⟨Below.later h.bel hb,h.b.later hb,owL h.own hb,h.hT⟩
theorem NB.put(h:NB w W T RA rn rc most v F ks){j:Nat}(x:Nat)(hj:j<49):NB w (W.setCell ⟨T,3+j,none⟩ (.int .i64 (x:Nat))) T RA rn rc most v (updF F j x) ks:=by
 refine⟨bset h.bel h.hT _,by rw[<-benchA_put x hj];exact h.b.set _ _,own_other h.own _ (h.b.notRow h.own (by decide)) _,h.hT⟩
theorem NB.app(h:NB w W T RA rn rc most v F ks){x:Nat×Nat}(hg:W.grownBy W' v.ownBlock)(ho:W'.ownsRow w.heap.size 90 2 v' (ks.length+1) (ks.flatMap encCl++encCl x)):NB w (W'.setCell ⟨T,2,none⟩ v') T RA rn rc most v' F (ks++[x]):=by
 have hb':=h.b.grown hg (h.b.notRow h.own (by decide))
 refine⟨bset (below_row h.bel hg (own_base h.own) h.bel.size) h.hT _,by rw[<-benchA_knots v'];exact hb'.set _ _,?_,h.hT⟩
 have:=own_other ho ⟨T,2,none⟩ (hb'.notRow ho (by decide)) v'
 simpa[encCl]using this
theorem NB.cells(h:NB w W T RA rn rc most v F ks):W.cell? ⟨T,0,none⟩=some (.slice RA rn rc)/\W.cell? ⟨T,2,none⟩=some v/\T<W.heap.size/\W.frozen? ⟨T,2,none⟩=false:=⟨(h.b.cell 0).trans (benchA_low (by omega)),(h.b.cell 2).trans (benchA_low (by omega)),h.b.lt,h.b.frozen 2⟩
theorem NB.bn(h:NB w W T RA rn rc most v F ks){rb ro:Nat}{rs:ByteArray}(hA:RA=some ⟨rb,ro,none⟩)(hr:W.cell? ⟨rb,ro,none⟩=some (.string rs))(hlt:rb<W.heap.size)(h1:1<=rn)(h6:rn<=6)(m6:rs.size<=6)(hm:most<=1000)(hF:∀i,i<49->F i<=1000):Bn W T rb ro rn rc rs most F:=
 ⟨h.b.lt,by rw[<-hA];exact(h.b.cell 0).trans (benchA_low (by omega)),(h.b.cell 1).trans (benchA_low (by omega)),λi hi=>by rw[h.b.cell,benchA_get hi],hlt,hr,h1,h6,m6,hm,hF⟩
end
theorem und_cells:Tryz.prog.underlying 84=some (.slice 90):=by kernel_rfl
theorem info_cell:(Tryz.prog.info? 90).map (λi=>(i.zero,i.size,i.bytes))=some (some (.agg #[.int .i64 0,.int .i64 0]),2,16):=by kernel_rfl
set_option maxRecDepth 100000 in
set_option maxHeartbeats 8000000 in
theorem newBench_ok(RA:Option Addr)(rn rc most cn:Nat)(rows:List ByteArray)(w:World)(hs:Sl 1 encB8 w w.heap.size RA rn rc rows)(h1:1<=rn)(h6:rn<=6)(hc:∀s∈rows,s.size=cn)(c6:cn<=6)(hm:most<=36):
 Calls Tryz.prog 52 #[.agg #[.slice RA rn rc,.int .i64 (most:Nat)]] w λe w'=>∃T v,e=.returned (.pointer (some ⟨T,0,none⟩))/\NB w w' T RA rn rc most v (figC (atB rows 35) cn rn 0) (knN (atB rows 111) cn rn 0):=by
 have hlit:(#[.slice RA rn rc,.int .i64 (most:Nat),.slice none 0 0,.int .i64 0,.int .i64 0,.int .i64 0,.int .i64 0,.int .i64 0,.int .i64 0,.int .i64 0,.int .i64 0,.int .i64 0,.int .i64 0,.int .i64 0,.int .i64 0,.int .i64 0,.int .i64 0,.int .i64 0,.int .i64 0,.int .i64 0,.int .i64 0,.int .i64 0,.int .i64 0,.int .i64 0,.int .i64 0,.int .i64 0,.int .i64 0,.int .i64 0,.int .i64 0,.int .i64 0,.int .i64 0,.int .i64 0,.int .i64 0,.int .i64 0,.int .i64 0,.int .i64 0,.int .i64 0,.int .i64 0,.int .i64 0,.int .i64 0,.int .i64 0,.int .i64 0,.int .i64 0,.int .i64 0,.int .i64 0,.int .i64 0,.int .i64 0,.int .i64 0,.int .i64 0,.int .i64 0,.int .i64 0,.int .i64 0]:Array Value)=benchA RA rn rc most (.slice none 0 0) (λ_=>0):=by
  unfold benchA
  rw[figI_is]
  kernel_rfl
 obtain⟨U0,hU0⟩:∃U0,w.alloc (.cells #[.slice RA rn rc,.int .i64 (most:Nat)] 24)=U0:=⟨_,rfl⟩
 have hUs:U0.heap.size=w.heap.size+1:=by rw[<-hU0,World.size_alloc]
 have hb0:Below w.heap.size w U0:=by rw[<-hU0];exact balloc (brefl w) _
 obtain⟨U,hU⟩:∃U,U0.alloc (.cells #[.slice RA rn rc,.int .i64 (most:Nat),.slice none 0 0,.int .i64 0,.int .i64 0,.int .i64 0,.int .i64 0,.int .i64 0,.int .i64 0,.int .i64 0,.int .i64 0,.int .i64 0,.int .i64 0,.int .i64 0,.int .i64 0,.int .i64 0,.int .i64 0,.int .i64 0,.int .i64 0,.int .i64 0,.int .i64 0,.int .i64 0,.int .i64 0,.int .i64 0,.int .i64 0,.int .i64 0,.int .i64 0,.int .i64 0,.int .i64 0,.int .i64 0,.int .i64 0,.int .i64 0,.int .i64 0,.int .i64 0,.int .i64 0,.int .i64 0,.int .i64 0,.int .i64 0,.int .i64 0,.int .i64 0,.int .i64 0,.int .i64 0,.int .i64 0,.int .i64 0,.int .i64 0,.int .i64 0,.int .i64 0,.int .i64 0,.int .i64 0,.int .i64 0,.int .i64 0,.int .i64 0] 88)=U:=⟨_,rfl⟩
 have hblk:Blk U (w.heap.size+1) 88 (benchA RA rn rc most (.slice none 0 0) (λ_=>0)):=by
  rw[<-hU,<-hUs,<-hlit]
  exact Blk.new U0 _ _
 have hbU:Below w.heap.size w U:=by rw[<-hU];exact balloc hb0 _
 have hcl:=λty=>Lib.run_clear_slice (P:=Tryz.prog) U 43 3 ty (.int .i64 0) (by kernel_rfl) (λ_=>by rfl) rfl rfl (w.heap.size+1) 3 49 49 (by omega) (λj hj=>by rw[hblk.cell,benchA_get hj];rfl) (λj hj=>hblk.frozen _)
 have hbs:=blk_setCells (List.replicate 49 (.int .i64 0)) 3 _ hblk (λj x hx=>by
  obtain⟨hj,rfl⟩:=repl_get hx
  rw[benchA_get hj]
  rfl)
 obtain⟨V,hV⟩:∃V,U.setCells (w.heap.size+1) 3 (List.replicate 49 (.int .i64 0))=V:=⟨_,rfl⟩
 rw[hV]at hbs
 have hbV:Below w.heap.size w V:=by rw[<-hV];exact hbU.trans (Lib.below_setCells_w (by omega) _ 3 _)
 have Hcl:=Lib.hid hcl
 have HU:=Lib.hid (And.intro hU0 (And.intro hU hV))
 have HN:=Lib.hid (show NB w V (w.heap.size+1) RA rn rc most (.slice none 0 0) (figC (atB rows 35) cn 0 0) (knN (atB rows 111) cn 0 0)from⟨hbV,by rw[figC_zero];exact hbs,World.ownsRow_nil _ _ _ _,by omega⟩)
 have Hs:=Lib.hid hs
 have Hc:=Lib.hid hc
 have hsl:=hs.len
 have Hsl:=Lib.hid hsl
 clear hlit hU0 hUs hb0 hU hblk hbU hcl hbs hV hbV hs hc hsl
 go_enter Tryz.func52,Tryz.ntmps52
 go_wp2_with fail
 rw[HU.out.1,HU.out.2.1,Hcl.out,HU.out.2.2]
 simp only[Result.andThen]
 rw[Oper.upon_value]
 clear Hcl HU
 obtain⟨T,hT⟩:∃T,w.heap.size+1=T:=⟨_,rfl⟩
 rw[hT]at HN ⊢
 clear hT
 obtain⟨c0,c1,c2,c3⟩:=HN.out.cells
 go_wp2_with fail
 clear c0 c1 c2 c3
 have Hm:=Lib.hid hm
 have H16:=Lib.hid (And.intro h1 h6)
 have H6:=Lib.hid c6
 have hlt0:0<rn:=h1
 obtain⟨b,o,r0,hA,hb0,hx0,x00⟩:=ltB8 Hs.out hlt0
 subst hA
 have hr0:=Hc.out r0 (List.mem_of_getElem? hx0)
 rw[Nat.add_zero]at x00
 have Habove:=Lib.hid (λ(V:World)(v:Value)(i k:Nat)(ks:List (Nat×Nat))(h:NB w V T (some ⟨b,o,none⟩) rn rc most v (figC (atB rows 35) cn i k) ks)(r c:Nat)(hr:r<=6)(hcc:c<=cn)(ho:r<=i\/r=i+1/\c<=k)=>by
  have:=above_ok r c hr (Nat.le_trans hcc c6) V (h.bn rfl ((h.bel.cell (p:=⟨b,o,none⟩) hb0).trans x00) (Nat.lt_of_lt_of_le hb0 h.bel.size) h1 h6 (by rw[hr0];exact c6) (by omega) (λx hx=>figC_le _ _ _ _ hx))
  rwa[figC_at hcc c6 ho]at this)
 clear hm h1 h6 c6 hlt0 hb0 hx0 x00 hr0
 refine lpn (λq a W=>a.defers=[]/\∃(i:Nat)(v:Value),i+q=rn/\NB w W T (some ⟨b,o,none⟩) rn rc most v (figC (atB rows 35) cn i 0) (knN (atB rows 111) cn i 0)/\Fits (none::none::none::some (.pointer (some ⟨T,0,none⟩))::none::none::none::none::none::none::none::none::none::none::none::none::none::none::none::some (.slice (some ⟨b,o,none⟩) rn rc)::some (.int .i64 (rn:Nat))::some (.int .i64 (i:Nat))::none::none::none::none::none::none::none::none::none::none::none::none::none::none::none::none::none::none::none::none::none::none::none::none::none::none::none::none::none::none::none::none::none::none::none::none::none::none::none::none::none::none::none::none::none::none::none::none::none::none::none::none::none::none::none::none::none::none::none::none::none::[]) a.tmps.toList) rn ?_ ?_
 ·refine⟨rfl,0,_,by omega,HN.out,?_⟩
  repeat (first|exact ftL|refine ftN ?_|refine ftS ?_)
 clear HN
 intro q a W hI K1 hK
 obtain⟨hds,i,v,hiq,hN,hfit⟩:=hI
 obtain⟨f',hf'⟩:=ftA hfit
 rw[hds]at hf'
 subst hf'
 clear hfit hds
 simp only[fillP,Nat.reduceAdd]
 by_cases hlt:i<rn
 ·have hsW:=Hs.out.later hN.bel
  obtain⟨b',o',s,hA',hbb,hx,x0⟩:=ltB8 hsW hlt
  cases hA'
  have hsz:=Hc.out s (List.mem_of_getElem? hx)
  have HK:=Lib.hid hK
  have HN:=Lib.hid hN
  have Hq:=Lib.hid hiq
  have Hlt:=Lib.hid hlt
  have hrow:∀x k,atB rows x i k=decide (bt s k=x):=λx k=>by unfold atB;rw[hx]
  have Hrow:=Lib.hid hrow
  have Hsz:=Lib.hid hsz
  have i1:(i:Int)<(rn:Int):=by omega
  have i2:(0:Int)<=(i:Int):=by omega
  have i3:i<=5:=by have:=H16.out;omega
  have i4:IntKind.i64.wrap ((i:Int)+1)=((i+1:Nat):Int):=by rw[IntKind.wrap_i64];omega
  obtain⟨i',hi'⟩:∃i',i+1=i':=⟨_,rfl⟩
  rw[hi']at i4
  have Hi':=Lib.hid hi'
  clear hsW hx hsz hK hN hiq hlt hrow hi'
  go_wp2_with fail
  rw[Hsz.out]
  clear x0 hbb
  have HN0:=Lib.hid HN.out
  clear HN
  refine lpn (λq2 a2 W2=>a2.defers=[]/\∃(k:Nat)(v:Value),k+q2=cn/\NB w W2 T (some ⟨b,o,none⟩) rn rc most v (figC (atB rows 35) cn i k) (knN (atB rows 111) cn i k)/\Fits (none::none::none::some (.pointer (some ⟨T,0,none⟩))::some (.int .i64 (i:Nat))::some (.string s)::none::none::none::none::none::none::none::none::none::none::none::none::none::some (.slice (some ⟨b,o,none⟩) rn rc)::some (.int .i64 (rn:Nat))::some (.int .i64 (i:Nat))::none::none::none::none::none::some (.int .i64 (cn:Nat))::some (.int .i64 (k:Nat))::none::none::none::none::none::none::none::none::none::none::none::none::none::none::none::none::none::none::none::none::none::none::none::none::none::none::none::none::none::none::none::none::none::none::none::none::none::none::none::none::none::none::none::none::none::none::none::none::none::none::none::none::none::none::[]) a2.tmps.toList) cn ?_ ?_
  ·refine⟨rfl,0,v,by omega,HN0.out,?_⟩
   repeat (first|exact ftL|refine ftN ?_|refine ftS ?_)
  clear HN0
  intro q2 a2 W2 hI2 K2 hK2
  obtain⟨hds,k,v2,hkq,hN,hfit⟩:=hI2
  obtain⟨f2,hf2⟩:=ftA hfit
  rw[hds]at hf2
  subst hf2
  clear hfit hds
  simp only[fillP,Nat.reduceAdd]
  by_cases hkl:k<cn
  ·have HK2:=Lib.hid hK2
   have hks:k<s.size:=by rw[Hsz.out];exact hkl
   have hbt:=get_bt s
   have k1:(k:Int)<(cn:Int):=by omega
   have k2:(0:Int)<=(k:Int):=by omega
   have k3:k<=5:=by have:=H6.out;omega
   have k4:IntKind.i64.wrap ((k:Int)+1)=((k+1:Nat):Int):=by rw[IntKind.wrap_i64];omega
   obtain⟨k',hk'⟩:∃k',k+1=k':=⟨_,rfl⟩
   rw[hk']at k4
   have hstep:=cntF_step (atB rows 35) i k
   have hmo:cntF (atB rows 35) i k<=cntF (atB rows 35) (i+1) k:=by rw[cntF];omega
   have hle1:=cntF_le (atB rows 35) (i+1) k
   have hle2:=cntF_le (atB rows 35) i (k+1)
   have hle1:cntF (atB rows 35) (i+1) k<=36:=Nat.le_trans hle1 (Nat.mul_le_mul (show i+1<=6 by omega) (show k<=6 by omega))
   have hle2:cntF (atB rows 35) i (k+1)<=36:=Nat.le_trans hle2 (Nat.mul_le_mul (show i<=6 by omega) (show k+1<=6 by omega))
   rw[Hi'.out,hk']at hstep
   rw[Hi'.out]at hle1 hmo
   rw[hk']at hle2
   obtain⟨A,hA⟩:∃A,cntF (atB rows 35) i' k=A:=⟨_,rfl⟩
   obtain⟨B,hB⟩:∃B,cntF (atB rows 35) i k'=B:=⟨_,rfl⟩
   obtain⟨C,hC⟩:∃C,cntF (atB rows 35) i k=C:=⟨_,rfl⟩
   obtain⟨D,hD⟩:∃D,cntF (atB rows 35) i' k'=D:=⟨_,rfl⟩
   have HA:=Lib.hid (λV v2 ks(h:NB w V T (some ⟨b,o,none⟩) rn rc most v2 (figC (atB rows 35) cn i k) ks)=>Habove.out V v2 i k ks h i' k (by have:=Hi'.out;omega) (by omega) (.inr ⟨Hi'.out.symm,Nat.le_refl _⟩))
   have HB:=Lib.hid (λV v2 ks(h:NB w V T (some ⟨b,o,none⟩) rn rc most v2 (figC (atB rows 35) cn i k) ks)=>Habove.out V v2 i k ks h i k' (by omega) (by omega) (.inl (Nat.le_refl _)))
   have HC:=Lib.hid (λV v2 ks(h:NB w V T (some ⟨b,o,none⟩) rn rc most v2 (figC (atB rows 35) cn i k) ks)=>Habove.out V v2 i k ks h i k (by omega) (by omega) (.inl (Nat.le_refl _)))
   rw[hA]at HA hstep hle1 hmo
   rw[hB]at HB hstep hle2
   rw[hC]at HC hstep hmo
   rw[hD,Hrow.out]at hstep
   have hset:=figC_set (h:=atB rows 35) (i:=i) hkl H6.out
   rw[Hi'.out,hk',hD]at hset
   have Hset:=Lib.hid hset
   obtain⟨x2,hx2⟩:∃x2,7*i'+k'=x2:=⟨_,rfl⟩
   rw[hx2]at Hset
   have hx49:x2<49:=by have:=Hi'.out;omega
   have y1:IntKind.i64.wrap ((i':Int)*7)=7*(i':Int):=by rw[IntKind.wrap_i64];have:=Hi'.out;omega
   obtain⟨x1,hx1⟩:∃x1,7*i'+k=x1:=⟨_,rfl⟩
   have y2:IntKind.i64.wrap (7*(i':Int)+(k:Int))=(x1:Int):=by rw[IntKind.wrap_i64];have:=Hi'.out;omega
   have y3:IntKind.i64.wrap ((x1:Int)+1)=(x2:Int):=by rw[IntKind.wrap_i64];have:=Hi'.out;omega
   obtain⟨AB,hAB⟩:∃AB,A+B=AB:=⟨_,rfl⟩
   have z1:IntKind.i64.wrap ((A:Int)+(B:Int))=(AB:Int):=by rw[IntKind.wrap_i64];omega
   have Hx49:=Lib.hid hx49
   have Hkq:=Lib.hid hkq
   have Hk':=Lib.hid hk'
   have HNk:=Lib.hid hN
   clear hA hB hC hD hset hx2 hx1 hx49 hkl hkq hK2 hk' hN
   by_cases ho:bt s k=111
   case pos=>
    have hh:¬(111:Int)=35:=by decide
    rw[ho,decide_eq_false hh]at hstep
    simp only[Bool.false_eq_true,if_false,Nat.add_zero]at hstep
    have z2:IntKind.i64.wrap ((AB:Int)-(C:Int))=(D:Int):=by rw[IntKind.wrap_i64];omega
    have Hkn:=Lib.hid (knN_yes (o:=atB rows 111) (cn:=cn) (i:=i) (k:=k) (by rw[Hrow.out,ho];rfl))
    have hkl:=knN_len (atB rows 111) cn i k
    have hkm:i*cn<=5*6:=Nat.mul_le_mul i3 H6.out
    obtain⟨ks,hks2⟩:∃ks,knN (atB rows 111) cn i k=ks:=⟨_,rfl⟩
    rw[hks2]at HNk Hkn hkl
    have Hkl:=Lib.hid (show ks.length<=40 by omega)
    obtain⟨i0,hi0,hz0,hz1,hz2⟩:=info_parts info_cell
    have HPa:=Lib.hid (HNk.out.later (balloc (brefl W2) (.cells #[.int .i64 (i:Nat),.int .i64 (k:Nat)] 90)))
    have hne:=HNk.out.b.notRow HNk.out.own (by decide)
    have HVs:=Lib.hid HNk.out.bel.size
    have HNw:=Lib.hid (two_new W2 (.int .i64 (i:Nat)) (.int .i64 (k:Nat)) 90)
    obtain⟨c0,c1,c2,c3⟩:=HNk.out.cells
    clear hstep hmo hle1 hle2 hks2 hkl hkm hh
    go_wp2_with (at_builtin;refine wpList_append_own _ rfl _ _ 84 rfl w.heap.size 90 i0 (.agg #[.int .i64 0,.int .i64 0]) 2 16 und_cells hi0 hz0 hz1 hz2 rfl (by decide) v2 ks.length _ rfl HPa.out.own ⟨W2.heap.size,0,none⟩ 1 1 [.int .i64 (i:Nat),.int .i64 (k:Nat)] rfl rfl HNw.out (by simp[Value.oneCell']) (by have:=Hkl.out;simp only[maxLen];omega) (by have:=Hkl.out;omega) (by have:=HVs.out;simp;omega) ?_;intro v' W3 hown' hgr _;have HP3:=Lib.hid (HPa.out.app (x:=(i,k)) hgr hown');have hb3:=HPa.out.b.grown hgr hne;have hc3:=(hb3.cell 2).trans (benchA_low (show 2<3 by omega));have hf3:=hb3.frozen 2;have hz3:=hb3.lt;obtain⟨g3,c3',rfl⟩:=own_succ hown';clear hown' hgr hb3)
    have HP4:=Lib.hid (show NB w (W3.setCell ⟨T,2,none⟩ (.slice (some ⟨g3,0,none⟩) (ks.length+1) c3')) T (some ⟨b,o,none⟩) rn rc most (.slice (some ⟨g3,0,none⟩) (ks.length+1) c3') (figC (atB rows 35) cn i k) (knN (atB rows 111) cn i (k+1))by rw[Hkn.out];exact HP3.out)
    clear HPa HVs HNw HNk HP3 Hkn Hkl hne hi0 hz0 hz1 hz2 hc3 hf3 hz3 c0 c1 c2 c3
    generalize W3.setCell ⟨T,2,none⟩ (.slice (some ⟨g3,0,none⟩) (ks.length+1) c3')=W4 at HP4 ⊢
    generalize Value.slice (some ⟨g3,0,none⟩) (ks.length+1) c3'=v4 at HP4 ⊢
    refine(HA.out _ _ _ HP4.out).mono ?_
    rintro e W5⟨rfl,hb⟩
    have HP5:=Lib.hid (HP4.out.later hb)
    clear hb HP4
    obtain⟨c0,c1,c2,c3⟩:=HP5.out.cells
    go_wp2_with fail
    refine(HB.out _ _ _ HP5.out).mono ?_
    rintro e W6⟨rfl,hb⟩
    have HP6:=Lib.hid (HP5.out.later hb)
    clear hb HP5 c0 c1 c2 c3
    obtain⟨c0,c1,c2,c3⟩:=HP6.out.cells
    go_wp2_with fail
    refine(HC.out _ _ _ HP6.out).mono ?_
    rintro e W7⟨rfl,hb⟩
    have HP7:=Lib.hid (HP6.out.later hb)
    clear hb HP6 c0 c1 c2 c3
    obtain⟨c0,c1,c2,c3⟩:=HP7.out.cells
    have f0:=HP7.out.b.cell (3+x2)
    rw[benchA_get Hx49.out]at f0
    have f1:=HP7.out.b.frozen (3+x2)
    have HP8:=Lib.hid (HP7.out.put D Hx49.out)
    rw[Hset.out]at HP8
    have b1:x2<49:=Hx49.out
    have b2:(x2:Int)<49:=by omega
    go_wp2
    refine HK2.out _ _ (q2-1) (by have:=Hkq.out;have:=Hk'.out;omega) ⟨rfl,k',_,by have:=Hkq.out;have:=Hk'.out;omega,by rw[<-Hk'.out]at HP8 ⊢;exact HP8.out,?_⟩
    repeat (first|exact ftL|refine ftN ?_|refine ftS ?_)
   case neg=>
   have n1:decide (bt s k=111)=false:=decide_eq_false ho
   have n2:(bt s k==111)=false:=beq_eq_false_iff_ne.2 ho
   have HP4:=Lib.hid (show NB w W2 T (some ⟨b,o,none⟩) rn rc most v2 (figC (atB rows 35) cn i k) (knN (atB rows 111) cn i (k+1))by rw[knN_no (by rw[Hrow.out];exact n1)];exact HNk.out)
   clear HNk ho
   by_cases hh:bt s k=35
   case pos=>
    rw[decide_eq_true hh]at hstep
    simp only[if_true]at hstep
    obtain⟨n0,hn0⟩:∃n0,AB-C=n0:=⟨_,rfl⟩
    have z2:IntKind.i64.wrap ((AB:Int)-(C:Int))=(n0:Int):=by rw[IntKind.wrap_i64];omega
    have z3:IntKind.i64.wrap ((n0:Int)+1)=(D:Int):=by rw[IntKind.wrap_i64];omega
    clear hstep hmo hle1 hle2 hn0 n1 n2
    obtain⟨c0,c1,c2,c3⟩:=HP4.out.cells
    go_wp2_with fail
    refine(HA.out _ _ _ HP4.out).mono ?_
    rintro e W5⟨rfl,hb⟩
    have HP5:=Lib.hid (HP4.out.later hb)
    clear hb HP4 c0 c1 c2 c3
    obtain⟨c0,c1,c2,c3⟩:=HP5.out.cells
    go_wp2_with fail
    refine(HB.out _ _ _ HP5.out).mono ?_
    rintro e W6⟨rfl,hb⟩
    have HP6:=Lib.hid (HP5.out.later hb)
    clear hb HP5 c0 c1 c2 c3
    obtain⟨c0,c1,c2,c3⟩:=HP6.out.cells
    go_wp2_with fail
    refine(HC.out _ _ _ HP6.out).mono ?_
    rintro e W7⟨rfl,hb⟩
    have HP7:=Lib.hid (HP6.out.later hb)
    clear hb HP6 c0 c1 c2 c3
    obtain⟨c0,c1,c2,c3⟩:=HP7.out.cells
    have f0:=HP7.out.b.cell (3+x2)
    rw[benchA_get Hx49.out]at f0
    have f1:=HP7.out.b.frozen (3+x2)
    have HP8:=Lib.hid (HP7.out.put D Hx49.out)
    rw[Hset.out]at HP8
    have b1:x2<49:=Hx49.out
    have b2:(x2:Int)<49:=by omega
    go_wp2
    refine HK2.out _ _ (q2-1) (by have:=Hkq.out;have:=Hk'.out;omega) ⟨rfl,k',_,by have:=Hkq.out;have:=Hk'.out;omega,by rw[<-Hk'.out]at HP8 ⊢;exact HP8.out,?_⟩
    repeat (first|exact ftL|refine ftN ?_|refine ftS ?_)
   case neg=>
    have n3:decide (bt s k=35)=false:=decide_eq_false hh
    have n4:(bt s k==35)=false:=beq_eq_false_iff_ne.2 hh
    rw[n3]at hstep
    simp only[Bool.false_eq_true,if_false,Nat.add_zero]at hstep
    have z2:IntKind.i64.wrap ((AB:Int)-(C:Int))=(D:Int):=by rw[IntKind.wrap_i64];omega
    clear hstep hmo hle1 hle2 hh
    obtain⟨c0,c1,c2,c3⟩:=HP4.out.cells
    go_wp2_with fail
    refine(HA.out _ _ _ HP4.out).mono ?_
    rintro e W5⟨rfl,hb⟩
    have HP5:=Lib.hid (HP4.out.later hb)
    clear hb HP4 c0 c1 c2 c3
    obtain⟨c0,c1,c2,c3⟩:=HP5.out.cells
    go_wp2_with fail
    refine(HB.out _ _ _ HP5.out).mono ?_
    rintro e W6⟨rfl,hb⟩
    have HP6:=Lib.hid (HP5.out.later hb)
    clear hb HP5 c0 c1 c2 c3
    obtain⟨c0,c1,c2,c3⟩:=HP6.out.cells
    go_wp2_with fail
    refine(HC.out _ _ _ HP6.out).mono ?_
    rintro e W7⟨rfl,hb⟩
    have HP7:=Lib.hid (HP6.out.later hb)
    clear hb HP6 c0 c1 c2 c3
    obtain⟨c0,c1,c2,c3⟩:=HP7.out.cells
    have f0:=HP7.out.b.cell (3+x2)
    rw[benchA_get Hx49.out]at f0
    have f1:=HP7.out.b.frozen (3+x2)
    have HP8:=Lib.hid (HP7.out.put D Hx49.out)
    rw[Hset.out]at HP8
    have b1:x2<49:=Hx49.out
    have b2:(x2:Int)<49:=by omega
    go_wp2
    refine HK2.out _ _ (q2-1) (by have:=Hkq.out;have:=Hk'.out;omega) ⟨rfl,k',_,by have:=Hkq.out;have:=Hk'.out;omega,by rw[<-Hk'.out]at HP8 ⊢;exact HP8.out,?_⟩
    repeat (first|exact ftL|refine ftN ?_|refine ftS ?_)
  ·obtain rfl:k=cn:=by omega
   have HNe:=Lib.hid (show NB w W2 T (some ⟨b,o,none⟩) rn rc most v2 (figC (atB rows 35) k i' 0) (knN (atB rows 111) k i' 0)by rw[<-Hi'.out,<-figC_row,knN_row];exact hN)
   clear hN hkl hkq hK2
   go_wp2
   refine HK.out _ _ (q-1) (by have:=Hq.out;have:=Hlt.out;omega) ⟨rfl,i',_,by have:=Hq.out;have:=Hlt.out;have:=Hi'.out;omega,HNe.out,?_⟩
   repeat (first|exact ftL|refine ftN ?_|refine ftS ?_)
 ·obtain rfl:i=rn:=by omega
  have HNe:=Lib.hid hN
  clear hN hlt hiq hK
  go_wp2
  go_ret
  exact⟨T,v,rfl,HNe.out⟩
end Go.Proofs.YtifehdoghfnhoaaGreatDoor.Pa
namespace Go.Proofs.YtifehdoghfnhoaaGreatDoor.Pa
open Go.RowKit Go.Shelf Go.Proofs.YtifehdoghfnhoaaGreatDoor.C
set_option maxHeartbeats 1000000 in
theorem indexS(g:Nat)(lb:Array Value)(eg:∀args w,(callFunc g args).run Tryz.prog w=.ok (.enter g args) w)(p:ByteArray->Bool)(A:Option Addr)(n c:Nat)(xs:List ByteArray)(w:World)
 (hs:Sl 1 encB8 w w.heap.size A n c xs)
 (hp:∀x W,x∈xs->Below w.heap.size w W->Calls Tryz.prog g (#[.string x]++lb) W λe W'=>e=.returned (.bool (p x))/\Below W.heap.size W W'):
 Calls Tryz.prog 113 #[.slice A n c,.func (.func g) #[] lb] w λe w'=>e=.returned (.int .i64 (idxB p xs 0))/\Below w.heap.size w w':=by
 have hl:=hs.len
 have hcap:=hs.cap
 have hbig:=hs.big
 have Hp:=Lib.hid hp
 clear hp
 go_enter Tryz.func113,Tryz.ntmps113
 go_wp2
 go_loopw [8] (λi wr=>∃k:Nat,k<=n/\i=.int .i64 k/\(∀j x,j<k->xs[j]? =some x->p x=false)/\Below w.heap.size w wr) (λi _=>n-(intOf i).toNat)
 case atStart=>exact⟨0,by omega,rfl,by omega,Below.refl _ _⟩
 case round=>
  obtain⟨k,hk,rfl,hno,hb⟩:=hrel
  by_cases hlt:k<n
  ·obtain⟨b,o,x,rfl,hB,hx,hc0⟩:=ltB8 (hs.below hb) hlt
   have Hno:=Lib.hid hno
   have Hx:=Lib.hid hx
   have Hb:=Lib.hid hb
   clear hno hx hb
   go_wp2_with (go_at_fn g;refine(Hp.out x _ (List.mem_of_getElem? Hx.out) Hb.out).mono ?_;rintro e w1 ⟨rfl,hb1⟩)
   ·have hpx:p x=true:=by assumption
    go_ret
    exact⟨ret_int (idxB_at Hno.out Hx.out hpx).symm,Below.later Hb.out hb1⟩
   ·have hpx:p x=false:=by assumption
    go_roundw
    case rel=>exact⟨k+1,by omega,by go_num,no_succ Hno.out Hx.out hpx,Below.later Hb.out hb1⟩
    case measure=>simp[intOf];omega
  ·obtain rfl:k=n:=by omega
   have Hno:=Lib.hid hno
   have Hb:=Lib.hid hb
   clear hno hb
   go_wp2
   go_ret
   exact⟨ret_int (idxB_no (by rw[hl];exact Hno.out)).symm,Hb.out⟩
set_option maxHeartbeats 400000 in
theorem containsS(g:Nat)(lb:Array Value)(eg:∀args w,(callFunc g args).run Tryz.prog w=.ok (.enter g args) w)(p:ByteArray->Bool)(A:Option Addr)(n c:Nat)(xs:List ByteArray)(w:World)
 (hs:Sl 1 encB8 w w.heap.size A n c xs)
 (hp:∀x W,x∈xs->Below w.heap.size w W->Calls Tryz.prog g (#[.string x]++lb) W λe W'=>e=.returned (.bool (p x))/\Below W.heap.size W W'):
 Calls Tryz.prog 47 #[.slice A n c,.func (.func g) #[] lb] w λe w'=>e=.returned (.bool (xs.any p))/\Below w.heap.size w w':=by
 have H:=Lib.hid (indexS g lb eg p A n c xs w hs hp)
 clear hs hp
 go_enter Tryz.func47,Tryz.ntmps47
 go_wp2_with (go_at_call 113;refine H.out.mono ?_;rintro e w1 ⟨rfl,hb1⟩)
 go_ret
 exact⟨rtB (idxB_ge p xs 0),hb1⟩
structure OW(w W:World)(RA:Option Addr)(rn rc most:Nat)(rows:List ByteArray):Prop where
 bel:Below w.heap.size w W
 b0:Blk W w.heap.size 24 #[.slice RA rn rc,.int .i64 (most:Nat)]
 sl:Sl 1 encB8 W W.heap.size RA rn rc rows
section
variable{w W W':World}{RA:Option Addr}{rn rc most:Nat}{rows:List ByteArray}
theorem OW.later(h:OW w W RA rn rc most rows)(hb:Below W.heap.size W W'):OW w W' RA rn rc most rows:=⟨Below.later h.bel hb,h.b0.later hb,h.sl.later hb⟩
theorem OW.cells(h:OW w W RA rn rc most rows):W.cell? ⟨w.heap.size,0,none⟩=some (.slice RA rn rc)/\W.cell? ⟨w.heap.size,1,none⟩=some (.int .i64 (most:Nat))/\w.heap.size<W.heap.size:=⟨h.b0.cell 0,h.b0.cell 1,h.b0.lt⟩
end
def joinB(rows:List ByteArray):List UInt8:=Lib.join (rows.map (·.data.toList)) []
set_option maxHeartbeats 2000000 in
theorem equal_row{RA:Option Addr}{rn rc most cn B:Nat}{rows:List ByteArray}(s:ByteArray)(w0 w:World)(h:OW w0 w RA rn rc most rows)(hB:w0.heap.size=B)(h1:1<=rn)(hc:∀s∈rows,s.size=cn)(hs:s.size=cn):
 Calls Tryz.prog 48 #[.string s,.pointer (some ⟨B,0,none⟩)] w λe w'=>e=.returned (.bool false)/\Below w.heap.size w w':=by
 obtain⟨b,o,r0,rfl,hb,hx,x0⟩:=ltB8 h.sl (show 0<rn by omega)
 rw[Nat.add_zero]at x0
 have hr:=hc r0 (List.mem_of_getElem? hx)
 obtain⟨c0,c1,c2⟩:=h.cells
 rw[hB]at c0 c1 c2
 have hlt:0<rn:=h1
 have heq:s.size=r0.size:=by omega
 clear h hc hx hr hs hB h1
 go_enter Tryz.func48,Tryz.ntmps48
 go_wp2_with fail
 go_ret
 exact⟨rfl,brefl _⟩
structure ShOk(rn cn most:Nat)(rows:List ByteArray):Prop where
 r1:1<=rn
 r6:rn<=6
 sz:∀s∈rows,s.size=cn
 c1:1<=cn
 c6:cn<=6
 m1:1<=most
 m36:most<=36
 trim:Lib.trimS (joinB rows) [46,111,35]=[]
 few:Lib.countByte (joinB rows) 111<=10
 len:(joinB rows).length<=1000
set_option maxRecDepth 100000 in
set_option maxHeartbeats 4000000 in
theorem open_ok(RA:Option Addr)(rn rc most cn:Nat)(rows:List ByteArray)(w:World)(hs:Sl 1 encB8 w w.heap.size RA rn rc rows)(hok:ShOk rn cn most rows):
 Calls Tryz.prog 28 #[.agg #[.slice RA rn rc,.int .i64 (most:Nat)]] w λe w'=>∃T v V,e=.returned (.tuple #[.pointer (some ⟨T,0,none⟩),.int .i64 0])/\Below w.heap.size w V/\NB V w' T RA rn rc most v (figC (atB rows 35) cn rn 0) (knN (atB rows 111) cn rn 0):=by
 have hB:=balloc (brefl w) (.cells #[.slice RA rn rc,.int .i64 (most:Nat)] 24)
 have HK0:=Lib.hid (show OW w (w.alloc (.cells #[.slice RA rn rc,.int .i64 (most:Nat)] 24)) RA rn rc most rows from⟨hB,Blk.new w _ _,hs.later hB⟩)
 have hr0:=hok.r1
 have Hlen:=Lib.hid hs.len
 have Hcap:=Lib.hid hs.cap
 obtain⟨b,o,r0,rfl,hb,hx,x0⟩:=ltB8 hs (show 0<rn by omega)
 rw[Nat.add_zero]at x0
 have hsz0:=hok.sz r0 (List.mem_of_getElem? hx)
 have Hr0:=Lib.hid (λV(h:OW w V (some ⟨b,o,none⟩) rn rc most rows)=>And.intro ((h.bel.cell (p:=⟨b,o,none⟩) hb).trans x0) (Nat.lt_of_lt_of_le hb h.bel.size))
 have Hw:=Lib.hid (λ(lo hi x:Int)(V:World)=>within_one lo hi x V.heap.size (V.alloc (.cells #[.int .i64 x] 3)) (by simp) ((Blk.new V 3 #[.int .i64 x]).cell 0))
 have hw1:=Hw.out 1 6 ((rn:Nat):Int)
 rw[(C.inR_iff 1 6 ((rn:Nat):Int)).2 (by have:=hok.r1;have:=hok.r6;omega)]at hw1
 have hw2:=Hw.out 1 6 ((cn:Nat):Int)
 rw[(C.inR_iff 1 6 ((cn:Nat):Int)).2 (by have:=hok.c1;have:=hok.c6;omega)]at hw2
 have hw3:=Hw.out 1 36 ((most:Nat):Int)
 rw[(C.inR_iff 1 36 ((most:Nat):Int)).2 (by have:=hok.m1;have:=hok.m36;omega)]at hw3
 have Hw1:=Lib.hid hw1
 have Hw2:=Lib.hid hw2
 have Hw3:=Lib.hid hw3
 have hfal:∀l:List ByteArray,l.any (λ_=>false)=false:=λl=>by induction l<;>simp_all
 have Hcon:=Lib.hid (λ(V:World)(h:OW w V (some ⟨b,o,none⟩) rn rc most rows)=>containsS 48 #[.pointer (some ⟨w.heap.size,0,none⟩)] (enters_of Tryz.func48 (by kernel_rfl) rfl) (λ_=>false) (some ⟨b,o,none⟩) rn rc rows V h.sl (λx W hx hb=>equal_row x w W (h.later hb) rfl hok.r1 hok.sz (hok.sz x hx)))
 simp only[hfal]at Hcon
 obtain⟨all,hall⟩:∃all:ByteArray,(⟨(joinB rows).toArray⟩:ByteArray)=all:=⟨_,rfl⟩
 have hdat:all.data.toList=joinB rows:=by rw[<-hall]
 have Hjoin:=Lib.hid (λ(V:World)(h:OW w V (some ⟨b,o,none⟩) rn rc most rows)=>show Calls Tryz.prog 49 #[.slice (some ⟨b,o,none⟩) rn rc,.string ⟨#[]⟩] V (λe w'=>e=.returned (.string all)/\Below V.heap.size V w')by
  have hj:=Any.strings_Join Ev.lays156 Ev.extra156 b o rc rows ⟨#[]⟩ V (λj x hj=>by
   have hjl:=(List.getElem?_eq_some_iff.1 hj).1
   obtain⟨b',o',s',hA',_,hx',hc'⟩:=ltB8 h.sl (show j<rn by have:=Hlen.out;omega)
   cases hA'
   rw[hj]at hx'
   cases hx'
   exact hc') (Nat.lt_of_lt_of_le hb h.bel.size) (by have:=Hlen.out;have:=hok.r6;omega) (by have:=Hlen.out;have:=Hcap.out;omega) (by have:=hok.len;exact Nat.le_trans this (by omega))
  rw[Hlen.out]at hj
  rw[<-hall]
  exact hj)
 have Htrim:=Lib.hid (λ(V:World)=>show Calls Tryz.prog 50 #[.string all,.string ⟨#[46,111,35]⟩] V (λe w'=>e=.returned (.string ⟨#[]⟩)/\Below V.heap.size V w')by
  have ht:=Any.strings_Trim_laid Ev.lays160 Ev.info116 all ⟨#[46,111,35]⟩ V (by rw[<-hall];have:=hok.len;show(joinB rows).toArray.size<=_;simp;omega) (by decide) (ascii_of_all (by decide))
  rw[hdat,show(⟨#[46,111,35]⟩:ByteArray).data.toList=[46,111,35]from rfl,hok.trim]at ht
  exact ht)
 obtain⟨ct,hct⟩:∃ct,Lib.countByte (joinB rows) 111=ct:=⟨_,rfl⟩
 have Hcount:=Lib.hid (λ(V:World)=>show Calls Tryz.prog 51 #[.string all,.string ⟨#[111]⟩] V (λe w'=>e=.returned (.int .i64 (ct:Nat))/\w'=V)by
  have hc:=Any.strings_Count_one Ev.lays138 all 111 V
  rw[hdat,hct]at hc
  exact hc)
 have Hnew:=Lib.hid (λ(V:World)(h:OW w V (some ⟨b,o,none⟩) rn rc most rows)=>newBench_ok (some ⟨b,o,none⟩) rn rc most cn rows V h.sl hok.r1 hok.r6 hok.sz hok.c6 hok.m36)
 have g1:¬((10:Int)<(ct:Int)):=by have:=hok.few;omega
 have g2:decide ((ct:Int)>10)=false:=decide_eq_false (by omega)
 have g3:decide (10<ct)=false:=decide_eq_false (by omega)
 have g4:0<rn:=hok.r1
 clear hok hs hB hr0 hb hx x0 hw1 hw2 hw3 hfal hall hdat hct Hw
 obtain⟨c0,c1,c2⟩:=HK0.out.cells
 obtain⟨d0,d1⟩:=Hr0.out _ HK0.out
 go_enter Tryz.func28,Tryz.ntmps28
 go_wp2_with fail
 have hw0:=Hw1.out (w.alloc (.cells #[.slice (some ⟨b,o,none⟩) rn rc,.int .i64 (most:Nat)] 24))
 rw[World.size_alloc]at hw0
 refine(hw0).mono ?_
 rintro e w1⟨rfl,hb⟩
 have HK1:=Lib.hid (HK0.out.later (Below.later (balloc (brefl _) _) hb))
 clear hb HK0 c0 c1 c2 d0 d1
 obtain⟨c0,c1,c2⟩:=HK1.out.cells
 obtain⟨d0,d1⟩:=Hr0.out _ HK1.out
 go_wp2_with fail
 clear hw0 Hw1
 refine(Hw2.out w1).mono ?_
 rintro e w2⟨rfl,hb⟩
 have HK2:=Lib.hid (HK1.out.later (Below.later (balloc (brefl _) _) hb))
 clear hb HK1 c0 c1 c2 d0 d1
 obtain⟨c0,c1,c2⟩:=HK2.out.cells
 obtain⟨d0,d1⟩:=Hr0.out _ HK2.out
 go_wp2_with fail
 refine(Hw3.out w2).mono ?_
 rintro e w3⟨rfl,hb⟩
 have HK3:=Lib.hid (HK2.out.later (Below.later (balloc (brefl _) _) hb))
 clear hb HK2 c0 c1 c2 d0 d1
 obtain⟨c0,c1,c2⟩:=HK3.out.cells
 obtain⟨d0,d1⟩:=Hr0.out _ HK3.out
 go_wp2_with fail
 clear Hw2 Hw3
 refine(Hcon.out w3 HK3.out).mono ?_
 rintro e w4⟨rfl,hb⟩
 have HK4:=Lib.hid (HK3.out.later (hb))
 clear hb HK3 c0 c1 c2 d0 d1
 obtain⟨c0,c1,c2⟩:=HK4.out.cells
 obtain⟨d0,d1⟩:=Hr0.out _ HK4.out
 go_wp2_with fail
 refine(Hjoin.out w4 HK4.out).mono ?_
 rintro e w5⟨rfl,hb⟩
 have HK5:=Lib.hid (HK4.out.later (hb))
 clear hb HK4 c0 c1 c2 d0 d1
 obtain⟨c0,c1,c2⟩:=HK5.out.cells
 obtain⟨d0,d1⟩:=Hr0.out _ HK5.out
 go_wp2_with fail
 refine(Htrim.out w5).mono ?_
 rintro e w6⟨rfl,hb⟩
 have HK6:=Lib.hid (HK5.out.later (hb))
 clear hb HK5 c0 c1 c2 d0 d1
 obtain⟨c0,c1,c2⟩:=HK6.out.cells
 obtain⟨d0,d1⟩:=Hr0.out _ HK6.out
 go_wp2_with fail
 clear Hcon Hjoin Htrim
 refine(Hcount.out w6).mono ?_
 rintro e w7⟨rfl,rfl⟩
 go_wp2_with fail
 refine(Hnew.out _ HK6.out).mono ?_
 rintro e w8⟨T,v,rfl,hN⟩
 have HN:=Lib.hid hN
 have HB:=Lib.hid HK6.out.bel
 clear hN c0 c1 c2 d0 d1 HK6 Hcount Hnew Hr0
 go_wp2
 go_ret2
 exact⟨T,v,_,rfl,HB.out,HN.out⟩
end Go.Proofs.YtifehdoghfnhoaaGreatDoor.Pa
