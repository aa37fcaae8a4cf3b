/- The document's placed and CheckRough, walked. -/
import Derived.Test.YtednconodjeniaaGreatPlB
import Derived.Test.YtednconodjeniaaGreatPlB1
import Derived.Test.YtednconodjeniaaGreatPlB2
import Derived.Test.YtednconodjeniaaGreatPlN
namespace Go.Proofs.YtednconodjeniaaGreat.P
open Go.RowKit Go.Shelf
theorem proves_any:ProvesC:=by
 intro T A E n c ce xs es p w hL hok hp
 obtain⟨pa,pb,pc,ps⟩:=p
 obtain⟨h1,⟨h2,h3,h4⟩|⟨h2,h3,h4⟩⟩:=hp
 ·dsimp only at h1 h2 h3 h4
  subst h2 h3 h4
  exact proves_0 T A E n c ce xs es pa w hL hok h1
 ·dsimp only at h1 h2 h3 h4
  rcases h4 with rfl|rfl
  ·exact proves_1 T A E n c ce xs es pa pb pc w hL hok h2 h3 h1
  ·exact proves_2 T A E n c ce xs es pa pb pc w hL hok h2 h3 h1
end Go.Proofs.YtednconodjeniaaGreat.P
namespace Go.Proofs.YtednconodjeniaaGreat.P
open Go.RowKit Go.Shelf
structure RoughOk(n:Nat)(xs:List Int)(ls hs:List Rg):Prop where
 lo:LogOk n xs ls
 hi:LogOk n xs hs
 le:∀(i:Nat)(a b:Rg),ls[i]? =some a->hs[i]? =some b->a.hi<=b.lo
structure Ro(W:World)(A L H:Option Addr)(n c cl ch:Nat)(xs:List Int)(ls hs:List Rg):Prop where
 at_:Sl 1 encI W W.heap.size A n c xs
 lo:Sl 2 encR W W.heap.size L n cl ls
 hi:Sl 2 encR W W.heap.size H n ch hs
theorem Ro.later{W W':World}{A L H:Option Addr}{n c cl ch:Nat}{xs:List Int}{ls hs:List Rg}(h:Ro W A L H n c cl ch xs ls hs)(hb:Below W.heap.size W W'):Ro W' A L H n c cl ch xs ls hs:=⟨h.at_.later hb,h.lo.later hb,h.hi.later hb⟩
set_option maxRecDepth 100000 in
set_option maxHeartbeats 2000000 in
theorem checkRough_ok(A L H:Option Addr)(n c cl ch:Nat)(xs:List Int)(ls hs:List Rg)(w:World)(hr:Ro w A L H n c cl ch xs ls hs)(hok:RoughOk n xs ls hs):
 Calls Tryz.prog 44 #[.agg #[.slice A n c,.slice L n cl,.slice H n ch]] w λe w'=>e=.returned (.int .i64 0)/\Below w.heap.size w w':=by
 have hb:=Blk.new (w.alloc (.cells #[.slice A n c,.slice L n cl,.slice H n ch] 56)) 31 #[.slice L n cl,.slice H n ch]
 rw[World.size_alloc]at hb
 have hbel:Below w.heap.size w ((w.alloc (.cells #[.slice A n c,.slice L n cl,.slice H n ch] 56)).alloc (.cells #[.slice L n cl,.slice H n ch] 31)):=balloc (balloc (brefl w) _) _
 have hE:Eds ((w.alloc (.cells #[.slice A n c,.slice L n cl,.slice H n ch] 56)).alloc (.cells #[.slice L n cl,.slice H n ch] 31)) (w.heap.size+1) 2 n (λi=>if i=0 then(L,cl,ls)else(H,ch,hs)):=
  ⟨hb.lt,λi hi=>by
    rcases(show i=0\/i=1 by omega)with rfl|rfl
    ·exact hb.cell 0
    ·exact hb.cell 1,λi hi=>by
    rcases(show i=0\/i=1 by omega)with rfl|rfl
    ·exact hr.lo.later hbel
    ·exact hr.hi.later hbel⟩
 have Hp:=Lib.hid (placed_ok A n c (w.heap.size+1) 2 xs (λi=>if i=0 then(L,cl,ls)else(H,ch,hs)) _ (hr.at_.later hbel) hE (by omega) (λi _=>by
  by_cases e:i=0
  ·rw[if_pos e];exact hok.lo
  ·rw[if_neg e];exact hok.hi) ⟨hok.lo.n2,hok.lo.n8⟩ (λx hx=>by obtain⟨i,hi⟩:=List.getElem?_of_mem hx;exact hok.lo.at_ i x hi) hok.lo.up)
 have Hbl:=Lib.hid ((Blk.new w 56 #[.slice A n c,.slice L n cl,.slice H n ch]).alloc (.cells #[.slice L n cl,.slice H n ch] 31))
 have Hb:=Lib.hid hbel
 have Hr:=Lib.hid hr
 have Hle:=Lib.hid hok.le
 have hn8:=hok.lo.n8
 clear hb hbel hE hr hok
 go_enter Tryz.func44,Tryz.ntmps44
 go_wp2_with fail
 refine Hp.out.mono ?_
 rintro e w1⟨rfl,hb1⟩
 have HB1:=Lib.hid (Below.later Hb.out hb1)
 have HR1:=Lib.hid (show Blk w1 w.heap.size 56 #[.slice A n c,.slice L n cl,.slice H n ch]from Hbl.out.later hb1)
 have c1:w1.cell? ⟨w.heap.size,1,none⟩=some (.slice L n cl):=HR1.out.cell 1
 have c2:=HR1.out.lt
 clear hb1 Hbl
 go_wp2_with fail
 refine loop_n (λq a W=>a.defers=[]/\∃i:Nat,i+q=n/\Below w.heap.size w W/\Blk W w.heap.size 56 #[.slice A n c,.slice L n cl,.slice H n ch]/\Fits (none::some (.pointer (some ⟨w.heap.size,0,none⟩))::none::none::none::none::none::none::none::none::none::none::none::none::none::none::none::none::some (.slice L n cl)::some (.int .i64 (n:Nat))::some (.int .i64 (i:Nat))::none::none::none::none::none::none::none::none::none::none::none::none::none::none::[]) a.tmps.toList) n ?_ ?_
 ·refine⟨rfl,0,by omega,HB1.out,HR1.out,?_⟩
  repeat (first|exact fits_nil|refine fits_none ?_|refine fits_some ?_)
 clear HB1 HR1 c1 c2
 intro q a W hI K1 hK
 obtain⟨hds,i,hiq,hB,hR,hfit⟩:=hI
 obtain⟨f',hf'⟩:=fits_act hfit
 rw[hds]at hf'
 subst hf'
 clear hfit hds
 simp only[fillP,Nat.reduceAdd]
 have HB:=Lib.hid hB
 have HR:=Lib.hid hR
 by_cases hlt:i<n
 ·obtain⟨lb,lo,x,rfl,hlb,hx,l0,l1⟩:=(Hr.out.later hB).lo.ltR hlt
  obtain⟨ub,uo,y,rfl,hub,hy,u0,u1⟩:=(Hr.out.later hB).hi.ltR hlt
  have hxy:=Hle.out i x y hx hy
  have i1:(i:Int)<(n:Int):=by omega
  have i2:(0:Int)<=(i:Int):=by omega
  have i3:IntKind.i64.wrap ((i:Int)+1)=(i:Int)+1:=by rw[IntKind.wrap_i64];omega
  have i7:¬(y.lo<x.hi):=by omega
  have i8:decide (y.lo<x.hi)=false:=by simpa using i7
  have c2:W.cell? ⟨w.heap.size,2,none⟩=some (.slice (some ⟨ub,uo,none⟩) n ch):=hR.cell 2
  have c3:=hR.lt
  have HW:=Lib.hid (Blk.new W 36 #[.int .i64 x.lo,.int .i64 x.hi])
  clear hx hy hxy hB hR i7
  go_wp2_with fail
  refine dag 9 (by kernel_rfl) (by kernel_rfl) (.is ?_::.is ?_::.is ?_::.is ?_::.is ?_::.is ?_::.is ?_::.is ?_::.is ?_::[]) rfl ?sta ?oba
  case sta=>simp[Spec.ok]
  case oba=>
  intro env V hG
  have hWV:Below W.heap.size W V:=Below.later (balloc (brefl W) _) hG
  have d0:V.cell? ⟨W.heap.size,1,none⟩=some (.int .i64 x.hi):=(HW.out.later hG).cell 1
  have d1:=(HW.out.later hG).lt
  have d2:V.cell? ⟨w.heap.size,2,none⟩=some (.slice (some ⟨ub,uo,none⟩) n ch):=(HR.out.later hWV).cell 2
  have d3:=(HR.out.later hWV).lt
  have d4:V.cell? ⟨ub,uo+i*2,none⟩=some (.int .i64 y.lo):=(hWV.cell (p:=⟨ub,uo+i*2,none⟩) hub).trans u0
  have d5:ub<V.heap.size:=Nat.lt_of_lt_of_le hub hWV.size
  have HB3:=Lib.hid (Below.later HB.out hWV)
  have HR3:=Lib.hid (HR.out.later hWV)
  clear hWV hG
  iterate 9 (refine obls_is ?_ ?_;unfold doesAt;go_simp;(try go_bits);(first|(refine⟨brefl _,?_⟩;rfl)|rfl);intro K hK;go_simp;refine hK _ ?_;clear hK K)
  refine obls_nil (λhx=>?_)
  clear hx
  go_wp2
  refine hK _ _ (q-1) (by omega) ⟨rfl,i+1,by omega,HB3.out,HR3.out,?_⟩
  repeat (first|exact fits_nil|refine fits_none ?_|refine fits_some ?_)
 obtain rfl:i=n:=by omega
 clear hK hB hR hlt
 go_wp2
 go_ret
 exact⟨rfl,HB.out⟩
end Go.Proofs.YtednconodjeniaaGreat.P
namespace Go.Proofs.YtednconodjeniaaGreat.P
open Go.RowKit Go.Shelf
def edB(x:Rg):Bool:=decide (-1000<=x.lo)&&decide (x.lo<=x.hi)&&decide (x.hi<=1000)
set_option maxRecDepth 100000 in
set_option maxHeartbeats 1000000 in
theorem isEdge_any(x:Rg)(w:World):
 Calls Tryz.prog 104 #[.agg #[.int .i64 x.lo,.int .i64 x.hi]] w λe w'=>e=.returned (.bool (edB x))/\Below w.heap.size w w':=by
 obtain⟨lo,hi⟩:=x
 unfold edB
 dsimp only
 by_cases h1:-1000<=lo
 ·by_cases h2:lo<=hi
  ·by_cases h3:hi<=1000
   ·go_enter Tryz.func104,Tryz.ntmps104
    go_wp2
    go_ret
    exact⟨by simp[h1,h2,h3],balloc (brefl _) _⟩
   ·have h4:decide (hi<=1000)=false:=by simpa using h3
    go_enter Tryz.func104,Tryz.ntmps104
    go_wp2
    go_ret
    exact⟨by simp,balloc (brefl _) _⟩
  ·have h4:decide (lo<=hi)=false:=by simpa using h2
   go_enter Tryz.func104,Tryz.ntmps104
   go_wp2
   go_ret
   exact⟨by simp,balloc (brefl _) _⟩
 ·have h4:decide (-1000<=lo)=false:=by simpa using h1
  go_enter Tryz.func104,Tryz.ntmps104
  go_wp2
  go_ret
  exact⟨by simp,balloc (brefl _) _⟩
def goodAt(xs:List Int)(ls hs:List Rg)(i:Nat):Bool:=decide (0<=xAt xs i)&&decide (xAt xs i<=100)&&edB (eAt ls i)&&edB (eAt hs i)
def upAt(xs:List Int)(i:Nat):Bool:=decide (i=0)||decide (xAt xs (i-1)<xAt xs i)
def placeE(n nl nh:Nat)(xs:List Int)(ls hs:List Rg):Int:=
 if n<2\/8<n then 6 else if nl≠n\/nh≠n then 15 else if(List.range n).all (goodAt xs ls hs)=true then(if(List.range n).all (upAt xs)=true then 0 else 16)else 3
theorem placeE_three{n:Nat}{xs:List Int}{ls hs:List Rg}(hn:¬(n<2\/8<n)){i:Nat}(hi:i<n)(h:goodAt xs ls hs i=false):placeE n n n xs ls hs=3:=by
 unfold placeE
 rw[if_neg hn,if_neg (by omega),if_neg]
 intro h2
 have:=List.all_eq_true.1 h2 i (List.mem_range.2 hi)
 rw[h]at this
 cases this
theorem placeE_rule{n:Nat}{xs:List Int}{ls hs:List Rg}(hn:¬(n<2\/8<n))(hg:∀i,i<n->goodAt xs ls hs i=true){i:Nat}(hi:i<n)(h:upAt xs i=false):placeE n n n xs ls hs=16:=by
 unfold placeE
 rw[if_neg hn,if_neg (by omega),if_pos (List.all_eq_true.2 (λi hi=>hg i (List.mem_range.1 hi))),if_neg]
 intro h2
 have:=List.all_eq_true.1 h2 i (List.mem_range.2 hi)
 rw[h]at this
 cases this
theorem placeE_ok{n:Nat}{xs:List Int}{ls hs:List Rg}(hn:¬(n<2\/8<n))(hg:∀i,i<n->goodAt xs ls hs i=true)(hu:∀i,i<n->upAt xs i=true):placeE n n n xs ls hs=0:=by
 unfold placeE
 rw[if_neg hn,if_neg (by omega),if_pos (List.all_eq_true.2 (λi hi=>hg i (List.mem_range.1 hi))),if_pos (List.all_eq_true.2 (λi hi=>hu i (List.mem_range.1 hi)))]
theorem placeE_zero{n nl nh:Nat}{xs:List Int}{ls hs:List Rg}(h:placeE n nl nh xs ls hs=0):(2<=n/\n<=8)/\nl=n/\nh=n/\(∀i,i<n->goodAt xs ls hs i=true)/\∀i,i<n->upAt xs i=true:=by
 unfold placeE at h
 split at h
 ·cases h
 ·split at h
  ·cases h
  ·split at h
   ·rename_i h1 h2 h3
    split at h
    ·rename_i h4
     exact⟨by omega,by omega,by omega,λi hi=>List.all_eq_true.1 h3 i (List.mem_range.2 hi),λi hi=>List.all_eq_true.1 h4 i (List.mem_range.2 hi)⟩
    ·cases h
   ·cases h
theorem up_lt{n:Nat}{xs:List Int}(hu:∀i,i<n->upAt xs i=true):∀d i,i+d+1<n->xAt xs i<xAt xs (i+d+1):=by
 intro d
 induction d with
 |zero=>
  intro i hi
  have:=hu (i+1) hi
  unfold upAt at this
  simpa using this
 |succ d ih=>
  intro i hi
  have h1:=ih i (by omega)
  have h2:=hu (i+(d+1)+1) hi
  unfold upAt at h2
  have h3:xAt xs (i+(d+1))<xAt xs (i+(d+1)+1):=by simpa using h2
  have e:i+(d+1)=i+d+1:=by omega
  rw[e]at h3 ⊢
  omega
theorem rough_of{n:Nat}{xs:List Int}{ls hs:List Rg}(hx:xs.length=n)(hl:ls.length=n)(hh:hs.length=n)(h:placeE n n n xs ls hs=0):LogOk n xs ls/\LogOk n xs hs:=by
 obtain⟨hn,_,_,hg,hu⟩:=placeE_zero h
 have key:∀es:List Rg,es.length=n->(∀i,i<n->edB (eAt es i)=true)->LogOk n xs es:=by
  intro es hel hed
  refine⟨hn.1,hn.2,hx,hel,λi x hi=>?_,λi j x y hij hi hj=>?_,λi e hi=>?_⟩
  ·have hin:i<n:=by have:=(List.getElem?_eq_some_iff.1 hi).1;omega
   have:=hg i hin
   unfold goodAt xAt at this
   simp[hi]at this
   exact⟨this.1.1.1,this.1.1.2⟩
  ·have hjn:j<n:=by have:=(List.getElem?_eq_some_iff.1 hj).1;omega
   have:=up_lt hu (j-i-1) i (by omega)
   rw[show i+(j-i-1)+1=j by omega]at this
   unfold xAt at this
   simpa[hi,hj]using this
  ·have hin:i<n:=by have:=(List.getElem?_eq_some_iff.1 hi).1;omega
   have:=hed i hin
   unfold edB eAt at this
   simp[hi]at this
   exact⟨this.1.1,this.1.2,this.2⟩
 refine⟨key ls hl (λi hi=>?_),key hs hh (λi hi=>?_)⟩
 ·have:=hg i hi
  unfold goodAt at this
  simp only[Bool.and_eq_true]at this
  exact this.1.2
 ·have:=hg i hi
  unfold goodAt at this
  simp only[Bool.and_eq_true]at this
  exact this.2
end Go.Proofs.YtednconodjeniaaGreat.P
namespace Go.Proofs.YtednconodjeniaaGreat.P
open Go.RowKit Go.Shelf
theorem xat_of{xs:List Int}{i:Nat}{x:Int}(h:xs[i]? =some x):xAt xs i=x:=by simp[xAt,h]
theorem eat_of{es:List Rg}{i:Nat}{e:Rg}(h:es[i]? =some e):eAt es i=e:=by simp[eAt,h]
set_option maxRecDepth 100000 in
set_option maxHeartbeats 4000000 in
theorem refPlaced_any(A L H:Option Addr)(n nl nh c cl ch:Nat)(xs:List Int)(ls hs:List Rg)(w:World)(ha:Sl 1 encI w w.heap.size A n c xs)(hl:Sl 2 encR w w.heap.size L nl cl ls)(hh:Sl 2 encR w w.heap.size H nh ch hs):
 Calls Tryz.prog 43 #[.slice A n c,.slice L nl cl,.slice H nh ch] w λe w'=>e=.returned (.int .i64 (placeE n nl nh xs ls hs))/\Below w.heap.size w w':=by
 have Ha:=Lib.hid ha
 have Hl:=Lib.hid hl
 have Hh:=Lib.hid hh
 clear ha hl hh
 by_cases h2:n<2
 ·have e:placeE n nl nh xs ls hs=6:=by unfold placeE;rw[if_pos (.inl h2)]
  have i1:(n:Int)<2:=by omega
  have He:=Lib.hid e
  clear e
  go_enter Tryz.func43,Tryz.ntmps43
  go_wp2
  go_ret
  exact⟨ret_int He.out.symm,brefl _⟩
 by_cases h8:8<n
 ·have e:placeE n nl nh xs ls hs=6:=by unfold placeE;rw[if_pos (.inr h8)]
  have i1:¬((n:Int)<2):=by omega
  have i2:(8:Int)<(n:Int):=by omega
  have He:=Lib.hid e
  clear e
  go_enter Tryz.func43,Tryz.ntmps43
  go_wp2
  go_ret
  exact⟨ret_int He.out.symm,brefl _⟩
 have hn:¬(n<2\/8<n):=by omega
 have i1:¬((n:Int)<2):=by omega
 have i2:¬((8:Int)<(n:Int)):=by omega
 by_cases hnl:nl=n
 case neg=>
  have e:placeE n nl nh xs ls hs=15:=by unfold placeE;rw[if_neg hn,if_pos (.inl hnl)]
  have i3:¬((nl:Int)=(n:Int)):=by omega
  have He:=Lib.hid e
  clear e
  go_enter Tryz.func43,Tryz.ntmps43
  go_wp2
  go_ret
  exact⟨ret_int He.out.symm,brefl _⟩
 subst hnl
 by_cases hnh:nh=nl
 case neg=>
  have e:placeE nl nl nh xs ls hs=15:=by unfold placeE;rw[if_neg hn,if_pos (.inr hnh)]
  have i3:¬((nh:Int)=(nl:Int)):=by omega
  have He:=Lib.hid e
  clear e
  go_enter Tryz.func43,Tryz.ntmps43
  go_wp2
  go_ret
  exact⟨ret_int He.out.symm,brefl _⟩
 subst hnh
 have Hn:=Lib.hid hn
 clear hn h2 h8
 go_enter Tryz.func43,Tryz.ntmps43
 go_wp2_with fail
 refine loop_n (λq a W=>a.defers=[]/\∃i:Nat,i+q=nh/\Below w.heap.size w W/\(∀j,j<i->goodAt xs ls hs j=true)/\Fits (some (.slice A nh c)::some (.slice L nh cl)::some (.slice H nh ch)::none::none::none::none::some (.int .i64 (nh:Nat))::some (.int .i64 (i:Nat))::none::none::none::none::none::none::none::none::none::none::none::none::none::none::none::none::none::none::none::none::none::none::none::none::none::none::none::none::none::none::none::none::none::none::none::none::none::none::none::none::none::none::none::none::none::none::none::none::none::none::none::none::none::none::none::none::none::none::none::none::none::none::none::none::none::none::none::[]) a.tmps.toList) nh ?_ ?_
 ·refine⟨rfl,0,by omega,brefl _,λj hj=>by omega,?_⟩
  repeat (first|exact fits_nil|refine fits_none ?_|refine fits_some ?_)
 intro q a W hI K1 hK
 obtain⟨hds,i,hiq,hB,hgood,hfit⟩:=hI
 obtain⟨f',hf'⟩:=fits_act hfit
 rw[hds]at hf'
 subst hf'
 clear hfit hds
 simp only[fillP,Nat.reduceAdd]
 have HB:=Lib.hid hB
 have Hgood:=Lib.hid hgood
 by_cases hlt:i<nh
 ·obtain⟨ab,ao,x,rfl,hab,hx,x0⟩:=(Ha.out.later hB).ltI hlt
  obtain⟨lb,lo,y,rfl,hlb,hy,y0,y1⟩:=(Hl.out.later hB).ltR hlt
  obtain⟨ub,uo,z,rfl,hub,hz,z0,z1⟩:=(Hh.out.later hB).ltR hlt
  have hg:goodAt xs ls hs i=(decide (0<=x)&&decide (x<=100)&&edB y&&edB z):=by unfold goodAt;rw[xat_of hx,eat_of hy,eat_of hz]
  have Hbad:=Lib.hid (show goodAt xs ls hs i=false->placeE nh nh nh xs ls hs=3 fromλh=>placeE_three Hn.out hlt h)
  have i1:(i:Int)<(nh:Int):=by omega
  have i2:(0:Int)<=(i:Int):=by omega
  have i3:IntKind.i64.wrap ((i:Int)+1)=(i:Int)+1:=by rw[IntKind.wrap_i64];omega
  have Hg:=Lib.hid hg
  clear hg hx hy hz hB hgood
  by_cases h1:x<0
  ·have H3:=Lib.hid (Hbad.out (by rw[Hg.out];simp;omega))
   go_wp2
   go_ret
   exact⟨ret_int H3.out.symm,HB.out⟩
  have k1:decide (x<0)=false:=by simpa using h1
  by_cases h2:100<x
  ·have H3:=Lib.hid (Hbad.out (by rw[Hg.out];simp;omega))
   go_wp2
   go_ret
   exact⟨ret_int H3.out.symm,HB.out⟩
  have k2:decide (100<x)=false:=by simpa using h2
  have hE1:=isEdge_any y W
  obtain⟨b1,hb1⟩:∃b,edB y=b:=⟨_,rfl⟩
  rw[hb1]at hE1
  have HE1:=Lib.hid hE1
  clear hE1
  go_wp2_with fail
  refine HE1.out.mono ?_
  rintro e w1⟨rfl,hbb⟩
  have z0':w1.cell? ⟨ub,uo+i*2,none⟩=some (.int .i64 z.lo):=(hbb.cell (p:=⟨ub,uo+i*2,none⟩) hub).trans z0
  have z1':w1.cell? ⟨ub,uo+i*2+1,none⟩=some (.int .i64 z.hi):=(hbb.cell (p:=⟨ub,uo+i*2+1,none⟩) hub).trans z1
  have hub':ub<w1.heap.size:=Nat.lt_of_lt_of_le hub hbb.size
  have HB:=Lib.hid (Below.later HB.out hbb)
  clear x0 y0 y1 z0 z1 hbb
  cases b1 with
  |false=>
   have H3:=Lib.hid (Hbad.out (by rw[Hg.out,hb1];simp))
   go_wp2
   go_ret
   exact⟨ret_int H3.out.symm,HB.out⟩
  |true=>
  have hE2:=isEdge_any z w1
  obtain⟨b2,hb2⟩:∃b,edB z=b:=⟨_,rfl⟩
  rw[hb2]at hE2
  have HE2:=Lib.hid hE2
  clear hE2
  go_wp2_with fail
  refine HE2.out.mono ?_
  rintro e w2⟨rfl,hbb⟩
  have HB:=Lib.hid (Below.later HB.out hbb)
  clear hbb z0' z1'
  cases b2 with
  |false=>
   have H3:=Lib.hid (Hbad.out (by rw[Hg.out,hb2];simp))
   go_wp2
   go_ret
   exact⟨ret_int H3.out.symm,HB.out⟩
  |true=>
  have Hgd:=Lib.hid (show goodAt xs ls hs i=true by rw[Hg.out,hb1,hb2];simp;omega)
  clear Hg Hbad hb1 hb2
  go_wp2
  refine hK _ _ (q-1) (by omega) ⟨rfl,i+1,by omega,HB.out,λj hj=>by
   rcases Nat.lt_succ_iff_lt_or_eq.1 hj with h|rfl
   ·exact Hgood.out j h
   ·exact Hgd.out,?_⟩
  repeat (first|exact fits_nil|refine fits_none ?_|refine fits_some ?_)
 obtain rfl:i=nh:=by omega
 clear hK hB hgood hlt hiq i1 i2
 have hi2:2<=i:=by have:=Hn.out;omega
 have hi8:i<=8:=by have:=Hn.out;omega
 go_wp2_with fail
 refine loop_n (λq a W=>a.defers=[]/\∃m:Nat,1<=m/\m+q=i/\Below w.heap.size w W/\(∀j,j<m->upAt xs j=true)/\Fits (some (.slice A i c)::some (.slice L i cl)::some (.slice H i ch)::none::none::none::none::some (.int .i64 (i:Nat))::none::some (.int .i64 (m:Nat))::none::none::none::none::none::none::none::none::none::none::none::none::none::none::none::none::none::none::none::none::none::none::none::none::none::none::none::none::none::none::none::none::none::none::none::none::none::none::none::none::none::none::none::none::none::none::none::none::none::none::none::none::none::none::none::none::none::none::none::none::none::none::none::none::none::none::[]) a.tmps.toList) (i-1) ?_ ?_
 ·refine⟨rfl,1,by omega,by omega,HB.out,λj hj=>?_,?_⟩
  ·obtain rfl:j=0:=by omega
   rfl
  repeat (first|exact fits_nil|refine fits_none ?_|refine fits_some ?_)
 clear HB
 intro q a W hI K1 hK
 obtain⟨hds,m,hm1,hmq,hB,hup,hfit⟩:=hI
 obtain⟨f',hf'⟩:=fits_act hfit
 rw[hds]at hf'
 subst hf'
 clear hfit hds
 simp only[fillP,Nat.reduceAdd]
 have HB:=Lib.hid hB
 have Hup:=Lib.hid hup
 by_cases hlt:m<i
 ·obtain⟨ab,ao,x,rfl,hab,hx,x0⟩:=(Ha.out.later hB).ltI hlt
  obtain⟨_,_,y,e0,_,hy,y0⟩:=(Ha.out.later hB).ltI (show m-1<i by omega)
  injection e0 with e1
  injection e1 with e2 e3
  subst e2 e3
  have hu:upAt xs m=decide (y<x):=by
   unfold upAt
   rw[xat_of hx,xat_of hy]
   have:decide (m=0)=false:=by simp;omega
   rw[this,Bool.false_or]
  have Hrule:=Lib.hid (show upAt xs m=false->placeE i i i xs ls hs=16 fromλh=>placeE_rule Hn.out Hgood.out hlt h)
  have i1:(m:Int)<(i:Int):=by omega
  have i2:(0:Int)<=(m:Int):=by omega
  have i3:IntKind.i64.wrap ((m:Int)+1)=(m:Int)+1:=by rw[IntKind.wrap_i64];omega
  have i4:IntKind.i64.wrap ((m:Int)-1)=((m-1:Nat):Int):=by rw[IntKind.wrap_i64];omega
  have i5:((m-1:Nat):Int)<(i:Int):=by omega
  have i6:(0:Int)<=((m-1:Nat):Int):=by omega
  have hm2:m-1<i:=by omega
  have Hu:=Lib.hid hu
  have Ht:=Lib.hid (show x<=y\/¬x<=y by omega)
  clear hu hx hy hB hup
  obtain⟨k,hk⟩:∃k,m-1=k:=⟨_,rfl⟩
  rw[hk]at y0 i4 i5 i6 hm2
  have Hk:=Lib.hid hk
  clear hk
  go_wp2_with fail
  refine dag 10 (by kernel_rfl) (by kernel_rfl) (.is ?_::.is ?_::.is ?_::.is ?_::.is ?_::.is ?_::.is ?_::.is ?_::.is ?_::.is ?_::[]) rfl ?sta ?oba
  case sta=>simp[Spec.ok]
  case oba=>
  intro env V hG
  have hWV:Below W.heap.size W V:=Below.later (brefl W) hG
  have d0:V.cell? ⟨ab,ao+m,none⟩=some (.int .i64 x):=(hWV.cell (p:=⟨ab,ao+m,none⟩) hab).trans x0
  have d1:V.cell? ⟨ab,ao+k,none⟩=some (.int .i64 y):=(hWV.cell (p:=⟨ab,ao+k,none⟩) hab).trans y0
  have d2:ab<V.heap.size:=Nat.lt_of_lt_of_le hab hWV.size
  have HB3:=Lib.hid (Below.later HB.out hWV)
  clear hWV hG
  iterate 10 (refine obls_is ?_ ?_;unfold doesAt;go_simp;(try go_bits);(first|(refine⟨brefl _,?_⟩;rfl)|rfl);intro K hK;go_simp;refine hK _ ?_;clear hK K)
  refine obls_nil (λhx=>?_)
  clear hx
  by_cases h1:x<=y
  ·have k1:decide (x<=y)=true:=by simpa using h1
   have H3:=Lib.hid (Hrule.out (by rw[Hu.out];simp;omega))
   go_wp2
   go_ret
   exact⟨ret_int H3.out.symm,HB3.out⟩
  ·have k1:decide (x<=y)=false:=by simpa using h1
   have H3:=Lib.hid (show upAt xs m=true by rw[Hu.out];simp;omega)
   go_wp2
   refine hK _ _ (q-1) (by omega) ⟨rfl,m+1,by omega,by omega,HB3.out,λj hj=>by
    rcases Nat.lt_succ_iff_lt_or_eq.1 hj with h|rfl
    ·exact Hup.out j h
    ·exact H3.out,?_⟩
   repeat (first|exact fits_nil|refine fits_none ?_|refine fits_some ?_)
 obtain rfl:m=i:=by omega
 have H3:=Lib.hid (placeE_ok (ls:=ls) (hs:=hs) Hn.out Hgood.out Hup.out)
 clear hK hB hup hlt
 go_wp2
 go_ret
 exact⟨ret_int H3.out.symm,HB.out⟩
end Go.Proofs.YtednconodjeniaaGreat.P
