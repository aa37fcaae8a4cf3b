/- Lists, ranges and yards of the examples; equal lists. -/
import Derived.Test.YtifehdoghfnhoaaGreatDoorZSApiG
import Derived.Deep.RegionLaw
import Derived.Deep.AppendLies
import Derived.Deep.DeepCutAuto
namespace Go.Proofs.YtifehdoghfnhoaaGreatDoor
open Go.RowKit Go.Shelf
set_option maxRecDepth 100000 in
set_option maxHeartbeats 2000000 in
theorem longsEq_any(A:Option Addr)(n c:Nat)(xs:List Int)(B:Option Addr)(m d:Nat)(ys:List Int)(w:World)(h1:Sl 1 encI w w.heap.size A n c xs)(h2:Sl 1 encI w w.heap.size B m d ys):
 Calls Tryz.prog 170 #[.slice A n c,.slice B m d] w λe w'=>e=.returned (.bool (decide (xs=ys)))/\Below w.heap.size w w':=by
 obtain rfl:=h1.len
 obtain rfl:=h2.len
 have hc1:=h1.cap
 have hb1:=h1.big
 by_cases hnm:xs.length=ys.length
 case neg=>
  have hd:((xs.length:Int) != (ys.length:Int))=true:=by simp;omega
  have HE:=Lib.hid (show decide (xs=ys)=false by
   rw[decide_eq_false_iff_not]
   intro e
   rw[e]at hnm
   exact hnm rfl)
  clear h1 h2 hnm
  go_enter Tryz.func170,Tryz.ntmps170
  go_wp2
  go_ret
  exact⟨rtB HE.out.symm,brefl _⟩
 have H1:=Lib.hid h1
 have H2:=Lib.hid h2
 obtain⟨n,hn⟩:∃n,xs.length=n:=⟨_,rfl⟩
 have hn2:ys.length=n:=by omega
 have Hn:=Lib.hid hn
 have Hn2:=Lib.hid hn2
 rw[hn]at H1 hc1 ⊢
 rw[hn2]at H2 ⊢
 have hd:((n:Int) != (n:Int))=false:=by simp
 clear h1 h2 hnm hn hn2
 go_enter Tryz.func170,Tryz.ntmps170
 go_wp2_with fail
 clear hd
 refine lpn (λk a W=>a.defers=[]/\∃i:Nat,i+k=n/\Below w.heap.size w W/\Hid (∀j,j<i->xs[j]? =ys[j]?)/\Fits (some (.slice A n c)::some (.slice B n d)::none::none::none::some (.int .i64 (i:Nat))::none::none::none::none::none::none::none::none::none::none::none::none::none::none::none::none::none::none::none::none::[]) a.tmps.toList) n ?_ ?_
 ·refine⟨rfl,0,by omega,brefl _,Lib.hid (λj hj=>by omega),?_⟩
  repeat (first|exact ftL|refine ftN ?_|refine ftS ?_)
 intro k a W hI K hK'
 obtain⟨hds,i,hik,hb,hno,hfit⟩:=hI
 obtain⟨f,hf⟩:=ftA hfit
 rw[hds]at hf
 subst hf
 clear hfit hds
 simp only[fillP,Nat.reduceAdd]
 have HB:=Lib.hid hb
 by_cases hlt:i<n
 ·obtain⟨b1,o1,x,rfl,hb1',hx,g0⟩:=(H1.out.later hb).ltI hlt
  obtain⟨b2,o2,y,rfl,hb2',hy,g1⟩:=(H2.out.later hb).ltI hlt
  have i1:(i:Int)<(n:Int):=by omega
  have i2:(0:Int)<=(i:Int):=by omega
  have i3:IntKind.i64.wrap ((i:Int)+1)=(i:Int)+1:=by rw[IntKind.wrap_i64];omega
  by_cases he:x=y
  ·have hne:(x != y)=false:=by simpa using he
   have HN:=Lib.hid (show∀j,j<i+1->xs[j]? =ys[j]? fromλj hj=>by
    by_cases e:j=i
    ·subst e;rw[hx,hy,he]
    ·exact hno.out j (by omega))
   clear hb hno hx hy he
   go_wp2_with fail
   refine dag 9 (by kernel_rfl) (by kernel_rfl) (.is ?_::.is ?_::.is ?_::.is ?_::.is ?_::.is ?_::.is ?_::.is ?_::.is ?_::[]) rfl ?st1 ?ob1
   case st1=>simp[Spec.ok]
   case ob1=>
    intro env W' hG
    obtain⟨hc,hf⟩:=bcell hG
    repeat (refine obI ?_ ?_;unfold dsA;go_simp;(try go_bits);(first|(refine⟨brefl _,?_⟩;rfl)|rfl);intro K hK;go_simp;refine hK _ ?_;clear hK K)
    refine obN (λ_=>?_)
    have HB2:=Lib.hid (Below.later HB.out hG)
    clear hc hf hG
    go_wp2
    refine hK' _ _ (k-1) (by omega) ⟨rfl,i+1,by omega,HB2.out,Lib.hid HN.out,?_⟩
    repeat (first|exact ftL|refine ftN ?_|refine ftS ?_)
  ·have hne:(x != y)=true:=by simpa using he
   have HE:=Lib.hid (show decide (xs=ys)=false by
    rw[decide_eq_false_iff_not]
    intro e
    rw[e,hy]at hx
    cases hx
    exact he rfl)
   clear hb hno hx hy he hK'
   go_wp2_with fail
   refine dag 9 (by kernel_rfl) (by kernel_rfl) (.is ?_::.is ?_::.is ?_::.is ?_::.is ?_::.is ?_::.is ?_::.is ?_::.is ?_::[]) rfl ?st2 ?ob2
   case st2=>simp[Spec.ok]
   case ob2=>
    intro env W' hG
    obtain⟨hc,hf⟩:=bcell hG
    repeat (refine obI ?_ ?_;unfold dsA;go_simp;(try go_bits);(first|(refine⟨brefl _,?_⟩;rfl)|rfl);intro K hK;go_simp;refine hK _ ?_;clear hK K)
    refine obN (λ_=>?_)
    have HB2:=Lib.hid (Below.later HB.out hG)
    clear hc hf hG
    go_wp2
    go_ret
    exact⟨rtB HE.out.symm,HB2.out⟩
 ·obtain rfl:i=n:=by omega
  have HE:=Lib.hid (show decide (xs=ys)=true by
   rw[decide_eq_true_eq]
   apply List.ext_getElem?
   intro j
   by_cases hj:j<i
   ·exact hno.out j hj
   ·rw[List.getElem?_eq_none (by rw[Hn.out];omega),List.getElem?_eq_none (by rw[Hn2.out];omega)])
  clear hK' hb hno
  go_wp2
  go_ret
  exact⟨rtB HE.out.symm,HB.out⟩
set_option maxRecDepth 100000 in
set_option maxHeartbeats 2000000 in
theorem intsEq_any(A:Option Addr)(n c:Nat)(xs:List Int)(B:Option Addr)(m d:Nat)(ys:List Int)(w:World)(h1:Sl 1 encI w w.heap.size A n c xs)(h2:Sl 1 encI w w.heap.size B m d ys):
 Calls Tryz.prog 171 #[.slice A n c,.slice B m d] w λe w'=>e=.returned (.bool (decide (xs=ys)))/\Below w.heap.size w w':=by
 obtain rfl:=h1.len
 obtain rfl:=h2.len
 have hc1:=h1.cap
 have hb1:=h1.big
 by_cases hnm:xs.length=ys.length
 case neg=>
  have hd:((xs.length:Int) != (ys.length:Int))=true:=by simp;omega
  have HE:=Lib.hid (show decide (xs=ys)=false by
   rw[decide_eq_false_iff_not]
   intro e
   rw[e]at hnm
   exact hnm rfl)
  clear h1 h2 hnm
  go_enter Tryz.func171,Tryz.ntmps171
  go_wp2
  go_ret
  exact⟨rtB HE.out.symm,brefl _⟩
 have H1:=Lib.hid h1
 have H2:=Lib.hid h2
 obtain⟨n,hn⟩:∃n,xs.length=n:=⟨_,rfl⟩
 have hn2:ys.length=n:=by omega
 have Hn:=Lib.hid hn
 have Hn2:=Lib.hid hn2
 rw[hn]at H1 hc1 ⊢
 rw[hn2]at H2 ⊢
 have hd:((n:Int) != (n:Int))=false:=by simp
 clear h1 h2 hnm hn hn2
 go_enter Tryz.func171,Tryz.ntmps171
 go_wp2_with fail
 clear hd
 refine lpn (λk a W=>a.defers=[]/\∃i:Nat,i+k=n/\Below w.heap.size w W/\Hid (∀j,j<i->xs[j]? =ys[j]?)/\Fits (some (.slice A n c)::some (.slice B n d)::none::none::none::some (.int .i64 (i:Nat))::none::none::none::none::none::none::none::none::none::none::none::none::none::none::none::none::none::none::none::none::[]) a.tmps.toList) n ?_ ?_
 ·refine⟨rfl,0,by omega,brefl _,Lib.hid (λj hj=>by omega),?_⟩
  repeat (first|exact ftL|refine ftN ?_|refine ftS ?_)
 intro k a W hI K hK'
 obtain⟨hds,i,hik,hb,hno,hfit⟩:=hI
 obtain⟨f,hf⟩:=ftA hfit
 rw[hds]at hf
 subst hf
 clear hfit hds
 simp only[fillP,Nat.reduceAdd]
 have HB:=Lib.hid hb
 by_cases hlt:i<n
 ·obtain⟨b1,o1,x,rfl,hb1',hx,g0⟩:=(H1.out.later hb).ltI hlt
  obtain⟨b2,o2,y,rfl,hb2',hy,g1⟩:=(H2.out.later hb).ltI hlt
  have i1:(i:Int)<(n:Int):=by omega
  have i2:(0:Int)<=(i:Int):=by omega
  have i3:IntKind.i64.wrap ((i:Int)+1)=(i:Int)+1:=by rw[IntKind.wrap_i64];omega
  by_cases he:x=y
  ·have hne:(x != y)=false:=by simpa using he
   have HN:=Lib.hid (show∀j,j<i+1->xs[j]? =ys[j]? fromλj hj=>by
    by_cases e:j=i
    ·subst e;rw[hx,hy,he]
    ·exact hno.out j (by omega))
   clear hb hno hx hy he
   go_wp2_with fail
   refine dag 9 (by kernel_rfl) (by kernel_rfl) (.is ?_::.is ?_::.is ?_::.is ?_::.is ?_::.is ?_::.is ?_::.is ?_::.is ?_::[]) rfl ?st1 ?ob1
   case st1=>simp[Spec.ok]
   case ob1=>
    intro env W' hG
    obtain⟨hc,hf⟩:=bcell hG
    repeat (refine obI ?_ ?_;unfold dsA;go_simp;(try go_bits);(first|(refine⟨brefl _,?_⟩;rfl)|rfl);intro K hK;go_simp;refine hK _ ?_;clear hK K)
    refine obN (λ_=>?_)
    have HB2:=Lib.hid (Below.later HB.out hG)
    clear hc hf hG
    go_wp2
    refine hK' _ _ (k-1) (by omega) ⟨rfl,i+1,by omega,HB2.out,Lib.hid HN.out,?_⟩
    repeat (first|exact ftL|refine ftN ?_|refine ftS ?_)
  ·have hne:(x != y)=true:=by simpa using he
   have HE:=Lib.hid (show decide (xs=ys)=false by
    rw[decide_eq_false_iff_not]
    intro e
    rw[e,hy]at hx
    cases hx
    exact he rfl)
   clear hb hno hx hy he hK'
   go_wp2_with fail
   refine dag 9 (by kernel_rfl) (by kernel_rfl) (.is ?_::.is ?_::.is ?_::.is ?_::.is ?_::.is ?_::.is ?_::.is ?_::.is ?_::[]) rfl ?st2 ?ob2
   case st2=>simp[Spec.ok]
   case ob2=>
    intro env W' hG
    obtain⟨hc,hf⟩:=bcell hG
    repeat (refine obI ?_ ?_;unfold dsA;go_simp;(try go_bits);(first|(refine⟨brefl _,?_⟩;rfl)|rfl);intro K hK;go_simp;refine hK _ ?_;clear hK K)
    refine obN (λ_=>?_)
    have HB2:=Lib.hid (Below.later HB.out hG)
    clear hc hf hG
    go_wp2
    go_ret
    exact⟨rtB HE.out.symm,HB2.out⟩
 ·obtain rfl:i=n:=by omega
  have HE:=Lib.hid (show decide (xs=ys)=true by
   rw[decide_eq_true_eq]
   apply List.ext_getElem?
   intro j
   by_cases hj:j<i
   ·exact hno.out j hj
   ·rw[List.getElem?_eq_none (by rw[Hn.out];omega),List.getElem?_eq_none (by rw[Hn2.out];omega)])
  clear hK' hb hno
  go_wp2
  go_ret
  exact⟨rtB HE.out.symm,HB.out⟩
set_option maxHeartbeats 1000000 in
theorem longs_any(A:Option Addr)(n c:Nat)(w:World):Calls Tryz.prog 161 #[.slice A n c] w λe w'=>e=.returned (.slice A n c)/\Below w.heap.size w w':=by
 go_enter Tryz.func161,Tryz.ntmps161
 go_wp2
 go_ret
 exact⟨rfl,brefl _⟩
set_option maxHeartbeats 1000000 in
theorem of__any(A:Option Addr)(n c:Nat)(w:World):Calls Tryz.prog 172 #[.slice A n c] w λe w'=>e=.returned (.slice A n c)/\Below w.heap.size w w':=by
 go_enter Tryz.func172,Tryz.ntmps172
 go_wp2
 go_ret
 exact⟨rfl,brefl _⟩
set_option maxHeartbeats 1000000 in
theorem ranges_any(A:Option Addr)(n c:Nat)(w:World):Calls Tryz.prog 165 #[.slice A n c] w λe w'=>e=.returned (.slice A n c)/\Below w.heap.size w w':=by
 go_enter Tryz.func165,Tryz.ntmps165
 go_wp2
 go_ret
 exact⟨rfl,brefl _⟩
set_option maxHeartbeats 1000000 in
theorem to_any(x y:Int)(w:World):Calls Tryz.prog 163 #[.int .i64 x,.int .i64 y] w λe w'=>e=.returned (.agg #[.int .i64 x,.int .i64 y])/\w'=w.alloc (.cells #[.int .i64 x,.int .i64 y] 34):=by
 go_enter Tryz.func163,Tryz.ntmps163
 go_wp2
 refine bodyPost_ret (v:=.agg #[.int .i64 x,.int .i64 y]) ?_ rfl ⟨rfl,rfl⟩
 simp[results,Tryz.results163,go_sem]
def flatY(rs:List Rg):List Int:=rs.flatMap λr=>[r.lo,r.hi]
theorem flatY_get(rs:List Rg):∀(i:Nat)(r:Rg),rs[i]? =some r->(flatY rs)[2*i]? =some r.lo/\(flatY rs)[2*i+1]? =some r.hi:=by
 induction rs with
 |nil=>intro i r h;simp at h
 |cons x rs ih=>
  intro i r h
  cases i with
  |zero=>
   obtain rfl:x=r:=by simpa using h
   exact⟨rfl,rfl⟩
  |succ i=>
   have h1:=ih i r (by simpa using h)
   unfold flatY at h1 ⊢
   rw[List.flatMap_cons,show 2*(i+1)=2*i+2 by omega,show 2*i+2+1=2*i+1+2 by omega]
   simpa using h1
theorem flatY_len(rs:List Rg):(flatY rs).length=2*rs.length:=by
 induction rs with
 |nil=>rfl
 |cons x rs ih=>unfold flatY at ih ⊢;rw[List.flatMap_cons,List.length_append,ih];simp;omega
structure YW(w W:World)(L:Int)(v:Value)(xs:List Rg):Prop where
 bx:BX w W w.heap.size (w.heap.size+1) 30 L v xs
 b0:Blk W w.heap.size 30 #[.int .i64 0,.slice none 0 0]
section
variable{w W W':World}{L:Int}{v:Value}{xs:List Rg}
theorem YW.later(h:YW w W L v xs)(hb:Below W.heap.size W W'):YW w W' L v xs:=⟨h.bx.later hb,h.b0.later hb⟩
theorem YW.grown(h:YW w W L v xs){v':Value}{x:Rg}(hg:W.grownBy W' v.ownBlock)(ho:W'.ownsRow w.heap.size 34 2 v' (xs.length+1) (xs.flatMap encR++encR x)):YW w (W'.setCell ⟨w.heap.size+1,1,none⟩ v') L v' (xs++[x]):=
 ⟨h.bx.grown (by decide) hg ho,(h.b0.grown hg (h.b0.notRow h.bx.own (by decide))).other (by show w.heap.size+1≠_;omega) _⟩
end
set_option maxRecDepth 100000 in
set_option maxHeartbeats 4000000 in
theorem yard_any(L:Int)(A:Option Addr)(n c:Nat)(rs:List Rg)(w:World)(hs:Sl 1 encI w w.heap.size A n c (flatY rs))(hn10:rs.length<=10):
 Calls Tryz.prog 254 #[.int .i64 L,.slice A n c] w λe w'=>∃A' c',e=.returned (.agg #[.int .i64 L,.slice A' rs.length c'])/\Below w.heap.size w w'/\w'.ownsRow w.heap.size 34 2 (.slice A' rs.length c') rs.length (rs.flatMap encR):=by
 have hnl:n=2*rs.length:=by rw[<-hs.len];exact flatY_len rs
 have hbl1:=Blk.new (w.alloc (.cells #[.int .i64 0,.slice none 0 0] 30)) 30 #[.int .i64 L,.slice none 0 0]
 rw[World.size_alloc]at hbl1
 have HK0:=Lib.hid (show YW w ((w.alloc (.cells #[.int .i64 0,.slice none 0 0] 30)).alloc (.cells #[.int .i64 L,.slice none 0 0] 30)) L (.slice none 0 0) []from⟨⟨balloc (balloc (brefl w) _) _,hbl1,World.ownsRow_nil _ _ _ _,by omega⟩,(Blk.new w _ _).alloc _⟩)
 have Hs:=Lib.hid hs
 have Hnl:=Lib.hid hnl
 obtain⟨m,hm⟩:∃m,rs.length=m:=⟨_,rfl⟩
 have Hm:=Lib.hid hm
 rw[hm]at hnl hn10 ⊢
 have hnl1:n<=2*m:=by omega
 have hnl2:2*m<=n:=by omega
 clear hs hbl1 hnl hm
 go_enter Tryz.func254,Tryz.ntmps254
 go_wp2_with fail
 refine lpn (λq a W=>a.defers=[]/\∃(i:Nat)(v:Value),i+q=m/\YW w W L v (rs.take i)/\Fits (none::some (.slice A n c)::none::none::some (.pointer (some ⟨w.heap.size,0,none⟩))::some (.pointer (some ⟨w.heap.size+1,0,none⟩))::some (.int .i64 (2*(i:Int)))::none::none::none::none::none::none::none::none::none::none::none::none::none::none::none::none::none::none::none::none::none::none::none::none::none::[]) a.tmps.toList) m ?_ ?_
 ·refine⟨rfl,0,_,by omega,HK0.out,?_⟩
  repeat (first|exact ftL|refine ftN ?_|refine ftS ?_)
 clear HK0
 intro q a W hI K hK
 obtain⟨hds,i,v,hiq,hKB,hfit⟩:=hI
 obtain⟨f,hf⟩:=ftA hfit
 rw[hds]at hf
 subst hf
 clear hfit hds
 simp only[fillP,Nat.reduceAdd]
 have HK:=Lib.hid hKB
 have j3:IntKind.i64.wrap (2*(i:Int)+1)=2*(i:Int)+1:=by rw[IntKind.wrap_i64];omega
 by_cases hlt:i<m
 ·obtain⟨x,hx⟩:∃x,rs[i]? =some x:=⟨_,List.getElem?_eq_getElem (by rw[Hm.out];exact hlt)⟩
  obtain⟨y0,y1⟩:=flatY_get rs i x hx
  obtain⟨rb,ro,z0,rfl,hrb,hz0',g0⟩:=(Hs.out.later hKB.bx.bel).ltI (show 2*i<n by omega)
  obtain⟨rb',ro',z1,hA',_,hz1',g1⟩:=(Hs.out.later hKB.bx.bel).ltI (show 2*i+1<n by omega)
  simp only[Option.some.injEq,Addr.mk.injEq,and_true]at hA'
  obtain⟨rfl,rfl⟩:=hA'
  rw[y0]at hz0';cases hz0'
  rw[y1]at hz1';cases hz1'
  have hadd:rs.take (i+1)=rs.take i++[x]:=by
   obtain⟨h1,h2⟩:=List.getElem?_eq_some_iff.1 hx
   rw[List.take_succ_eq_append_getElem h1,h2]
  obtain⟨xs,hxs⟩:∃xs,rs.take i=xs:=⟨_,rfl⟩
  have hxl:xs.length<=10:=by rw[<-hxs];simp;omega
  rw[hxs]at hKB HK hadd
  have Hadd:=Lib.hid hadd
  have i1:2*(i:Int)+1<(n:Int):=by omega
  have i2:(0:Int)<=2*(i:Int):=by omega
  have i4:2*(i:Int)<(n:Int):=by omega
  have i5:(0:Int)<=2*(i:Int)+1:=by omega
  have i6:(2*(i:Int)).toNat=2*i:=by omega
  have i7:(2*(i:Int)+1).toNat=2*i+1:=by omega
  have i8:IntKind.i64.wrap (2*(i:Int)+2)=2*(i:Int)+2:=by rw[IntKind.wrap_i64];omega
  have b0:=hKB.bx.bp.cell 0
  have b1:=hKB.bx.bp.cell 1
  have b2:=hKB.bx.bp.lt
  have b3:=hKB.bx.bp.frozen 1
  have b8:w.heap.size<W.heap.size:=by omega
  have b9:¬w.heap.size=W.heap.size:=by omega
  obtain⟨i0,hi0,hz0,hz1,hz2⟩:=info_parts info_rg
  have hvv:v.ownBlock≠some (w.heap.size+1):=hKB.bx.bp.notRow hKB.bx.own (by decide)
  have HBr:=Lib.hid (show YW w ((W.drew.alloc (.cells #[.int .i64 x.lo,.int .i64 x.hi] 34)).alloc (.cells #[.int .i64 x.lo,.int .i64 x.hi] 34)) L v xs from HK.out.later (balloc (balloc (brefl W).drew _) _))
  clear hKB hx hadd hxs y0 y1
  have HNw:=Lib.hid (show∀j u,([.int .i64 x.lo,.int .i64 x.hi]:List Value)[j]? =some u->((W.drew.alloc (.cells #[.int .i64 x.lo,.int .i64 x.hi] 34)).alloc (.cells #[.int .i64 x.lo,.int .i64 x.hi] 34)).cell? ((⟨W.heap.size+1,0,none⟩:Addr).add j)=some u from by
   have h5:=two_new (W.drew.alloc (.cells #[.int .i64 x.lo,.int .i64 x.hi] 34)) (.int .i64 x.lo) (.int .i64 x.hi) 34
   rw[World.size_alloc]at h5
   exact h5)
  have HBW:=Lib.hid (show w.heap.size<=((W.drew.alloc (.cells #[.int .i64 x.lo,.int .i64 x.hi] 34)).alloc (.cells #[.int .i64 x.lo,.int .i64 x.hi] 34)).heap.size from Nat.le_trans (show w.heap.size<=W.heap.size by omega) (by rw[World.size_alloc,World.size_alloc];show W.heap.size<=W.heap.size+1+1;omega))
  go_wp2_with fail
  go_region_law
   ((first
     |(refine step_append_lies _ (by rfl) _ _ _ (by rfl) w.heap.size 34 i0 _ 2 16 und_rgs hi0 hz0 hz1 hz2 rfl (by omega) v xs.length _ (by rfl) HBr.out.bx.own ⟨W.heap.size+1,0,none⟩ 1 1 [.int .i64 x.lo,.int .i64 x.hi] (by rfl) (by rfl) HNw.out (by simp[Value.oneCell']) (by omega) (by simp only[maxLen];omega) (by omega) HBW.out (W.heap.size+1+1) (by simp) ?_;intro gg cap w3 hown1 hgrow hat hlt';have hb3:=HBr.out.bx.bp.grown hgrow hvv;have hc3:=hb3.cell 1;have hf3:=hb3.frozen 1;have hz3:=hb3.lt;clear hb3)
     |(go_simp;go_at_call 163;refine(to_any _ _ _).mono ?_;rintro e w5 ⟨rfl,rfl⟩)))
  all_goals
   have hP3:=HBr.out.grown (x:=x) hgrow hown1
   rw[<-Hadd.out]at hP3
   have HP3:=Lib.hid hP3
   clear hown1 hgrow hat hP3 hlt' hc3 hf3 hz3
   go_wp2
   refine hK _ _ (q-1) (by omega) ⟨rfl,i+1,_,by omega,HP3.out,?_⟩
   rw[show 2*((i+1:Nat):Int)=2*(i:Int)+2 by omega]
   repeat (first|exact ftL|refine ftN ?_|refine ftS ?_)
 ·obtain rfl:i=m:=by omega
  have j4:¬(2*(i:Int)+1<(n:Int)):=by omega
  have hE:rs.take i=rs:=by rw[<-Hm.out];exact List.take_length
  rw[hE]at hKB HK
  obtain⟨A',c',hv,hsl⟩:=hKB.bx.sl
  subst hv
  rw[Hm.out]at hKB HK hsl
  have b0:=hKB.bx.bp.cell 0
  have b1:=hKB.bx.bp.cell 1
  have b2:=hKB.bx.bp.lt
  have b3:=hKB.b0.frozen 0
  have b4:=hKB.b0.frozen 1
  have b5:=hKB.b0.cell 0
  have b6:=hKB.b0.cell 1
  have b7:=hKB.b0.lt
  clear hK hKB hE
  go_wp2
  have hKB:=HK.out
  refine bodyPost_ret (v:=.agg #[.int .i64 L,.slice A' i c']) ?_ rfl ⟨A',c',rfl,(hKB.bx.bel.setCell (by show w.heap.size<=w.heap.size;omega) _).setCell (by show w.heap.size<=w.heap.size;omega) _,?_⟩
  ·have e0:((W.setCell ⟨w.heap.size,0,none⟩ (.int .i64 L)).setCell ⟨w.heap.size,1,none⟩ (.slice A' i c')).cell? ⟨w.heap.size,0,none⟩=some (.int .i64 L):=by
    rw[((hKB.b0.set 0 _).set 1 _).cell 0];rfl
   have e1:((W.setCell ⟨w.heap.size,0,none⟩ (.int .i64 L)).setCell ⟨w.heap.size,1,none⟩ (.slice A' i c')).cell? ⟨w.heap.size,1,none⟩=some (.slice A' i c'):=by
    rw[((hKB.b0.set 0 _).set 1 _).cell 1];rfl
   simp[results,Tryz.results254,go_sem,e0,e1]
  ·have h5:=hKB.bx.own
   have hnr:=hKB.b0.notRow h5 (by decide)
   rw[Hm.out]at h5
   exact own_other (own_other h5 ⟨w.heap.size,0,none⟩ hnr (.int .i64 L)) ⟨w.heap.size,1,none⟩ hnr (.slice A' i c')
theorem lit_sl{W:World}{B b:Nat}{t:TypeId}{xs:List Int}{n:Nat}(h:Blk W b t (xs.map (Value.int .i64)).toArray)(hb:b<B)(hn:xs.length=n)(h2:n<=1000):Sl 1 encI W B (some ⟨b,0,none⟩) n n xs:=
 ⟨hn,Nat.le_refl _,by omega,λ_=>⟨b,0,rfl,hb,λi x hx j u hu=>by
   have hj:j<1:=(List.getElem?_eq_some_iff.1 hu).1
   obtain rfl:j=0:=by omega
   rw[show 0+i*1+0=i by omega,h.cell]
   simp only[List.getElem?_toArray,List.getElem?_map,hx,Option.map_some]
   simpa[encI]using hu⟩⟩
def rsA:List Rg:=[⟨2,5⟩,⟨3,4⟩,⟨4,8⟩,⟨6,9⟩,⟨7,7⟩]
set_option maxRecDepth 100000 in
set_option maxHeartbeats 2000000 in
theorem five_any(w:World):Calls Tryz.prog 158 #[] w λe w'=>∃A c,e=.returned (.agg #[.int .i64 2,.slice A 5 c])/\Below w.heap.size w w'/\Sl 2 encR w' w'.heap.size A 5 c rsA:=by
 have hbl:=Blk.new (w.alloc (.cells #[.int .i64 0,.slice none 0 0] 30)) 2 #[.int .i64 2,.int .i64 5,.int .i64 3,.int .i64 4,.int .i64 4,.int .i64 8,.int .i64 6,.int .i64 9,.int .i64 7,.int .i64 7]
 rw[World.size_alloc]at hbl
 have HB:=Lib.hid (balloc (balloc (brefl w) (.cells #[.int .i64 0,.slice none 0 0] 30)) (.cells #[.int .i64 2,.int .i64 5,.int .i64 3,.int .i64 4,.int .i64 4,.int .i64 8,.int .i64 6,.int .i64 9,.int .i64 7,.int .i64 7] 2))
 have hY:=yard_any 2 (some ⟨w.heap.size+1,0,none⟩) 10 10 rsA _ (lit_sl (xs:=flatY rsA) hbl (by simp) rfl (by omega)) (by decide)
 rw[show rsA.length=5 from rfl]at hY
 have HY:=Lib.hid hY
 clear hY
 have HR:=Lib.hid ((Blk.new w 30 #[.int .i64 0,.slice none 0 0]).alloc (.cells #[.int .i64 2,.int .i64 5,.int .i64 3,.int .i64 4,.int .i64 4,.int .i64 8,.int .i64 6,.int .i64 9,.int .i64 7,.int .i64 7] 2))
 clear hbl
 go_enter Tryz.func158,Tryz.ntmps158
 go_wp2_with fail
 refine HY.out.mono ?_
 rintro e W⟨A,c,rfl,hb,hown⟩
 have hown2:=own_low hown (show w.heap.size+1<=_ by simp)
 have hR:=HR.out.later hb
 have b0:=hR.cell 0
 have b1:=hR.cell 1
 have b2:=hR.lt
 have b3:=hR.frozen 0
 have b4:=hR.frozen 1
 have HR2:=Lib.hid hR
 have HB2:=Lib.hid (Below.later HB.out hb)
 have HS:=Lib.hid hown2
 clear hb hR hown hown2
 go_wp2
 refine bodyPost_ret (v:=.agg #[.int .i64 2,.slice A 5 c]) ?_ rfl ⟨A,c,rfl,(HB2.out.setCell (by show w.heap.size<=w.heap.size;omega) _).setCell (by show w.heap.size<=w.heap.size;omega) _,?_⟩
 ·have e0:((W.setCell ⟨w.heap.size,0,none⟩ (.int .i64 2)).setCell ⟨w.heap.size,1,none⟩ (.slice A 5 c)).cell? ⟨w.heap.size,0,none⟩=some (.int .i64 2):=by
   rw[((HR2.out.set 0 _).set 1 _).cell 0];rfl
  have e1:((W.setCell ⟨w.heap.size,0,none⟩ (.int .i64 2)).setCell ⟨w.heap.size,1,none⟩ (.slice A 5 c)).cell? ⟨w.heap.size,1,none⟩=some (.slice A 5 c):=by
   rw[((HR2.out.set 0 _).set 1 _).cell 1];rfl
  simp[results,Tryz.results158,go_sem,e0,e1]
 ·have hnr:(Value.slice A 5 c).ownBlock≠some w.heap.size:=λe=>by have:=own_base HS.out _ e;omega
  obtain⟨A2,c2,he2,hsl2⟩:=own_slG (k:=2) (enc:=encR) (λ_=>rfl) (own_other (own_other HS.out ⟨w.heap.size,0,none⟩ hnr (.int .i64 2)) ⟨w.heap.size,1,none⟩ hnr (.slice A 5 c)) (xs:=rsA) rfl
  simp only[Value.slice.injEq]at he2
  obtain⟨rfl,_,rfl⟩:=he2
  exact hsl2
set_option maxRecDepth 100000 in
set_option maxHeartbeats 2000000 in
theorem none_any(w:World):Calls Tryz.prog 159 #[] w λe w'=>∃A c,e=.returned (.agg #[.int .i64 1,.slice A 0 c])/\Below w.heap.size w w'/\Sl 2 encR w' w'.heap.size A 0 c []:=by
 have hY:=yard_any 1 none 0 0 [] (w.alloc (.cells #[.int .i64 0,.slice none 0 0] 30)) ⟨rfl,Nat.le_refl _,by omega,λh=>by omega⟩ (by decide)
 rw[show([]:List Rg).length=0 from rfl]at hY
 have HY:=Lib.hid hY
 have HR:=Lib.hid (Blk.new w 30 #[.int .i64 0,.slice none 0 0])
 have HB:=Lib.hid (balloc (brefl w) (.cells #[.int .i64 0,.slice none 0 0] 30))
 clear hY
 go_enter Tryz.func159,Tryz.ntmps159
 go_wp2_with fail
 refine HY.out.mono ?_
 rintro e W⟨A,c,rfl,hb,hown⟩
 have hR:=HR.out.later hb
 have b0:=hR.cell 0
 have b1:=hR.cell 1
 have b2:=hR.lt
 have b3:=hR.frozen 0
 have b4:=hR.frozen 1
 have hcc:c<=9223372036854775807:=by
  rcases hown.2 with⟨hh,_⟩|⟨_,_,_,hh,_,_,_,hm,_⟩
  ·simp only[Value.slice.injEq]at hh;omega
  ·simp only[Value.slice.injEq]at hh;simp only[maxLen]at hm;omega
 have HR2:=Lib.hid hR
 have HB2:=Lib.hid (Below.later HB.out hb)
 clear hb hR hown
 go_wp2
 refine bodyPost_ret (v:=.agg #[.int .i64 1,.slice A 0 c]) ?_ rfl ⟨A,c,rfl,(HB2.out.setCell (by show w.heap.size<=w.heap.size;omega) _).setCell (by show w.heap.size<=w.heap.size;omega) _,⟨rfl,Nat.zero_le _,hcc,λh=>by omega⟩⟩
 have e0:((W.setCell ⟨w.heap.size,0,none⟩ (.int .i64 1)).setCell ⟨w.heap.size,1,none⟩ (.slice A 0 c)).cell? ⟨w.heap.size,0,none⟩=some (.int .i64 1):=by
  rw[((HR2.out.set 0 _).set 1 _).cell 0];rfl
 have e1:((W.setCell ⟨w.heap.size,0,none⟩ (.int .i64 1)).setCell ⟨w.heap.size,1,none⟩ (.slice A 0 c)).cell? ⟨w.heap.size,1,none⟩=some (.slice A 0 c):=by
  rw[((HR2.out.set 0 _).set 1 _).cell 1];rfl
 simp[results,Tryz.results159,go_sem,e0,e1]
end Go.Proofs.YtifehdoghfnhoaaGreatDoor
