/- The document's Windows. · The document's Least. · The document's FewestOf, Fewest, Late. -/
import Derived.Test.YtednconodjeniaaGreatSApiG
import Derived.Deep.RegionHeld3
import Derived.Test.YtednconodjeniaaGreatSPlainG
namespace Go.Proofs.YtednconodjeniaaGreat
open Go.RowKit Go.Shelf
structure LW(w W:World)(B0:Nat)(L:Int)(A:Option Addr)(n c:Nat)(rs:List Rg):Prop where
 bel:Below w.heap.size w W
 b0:Blk W B0 33 #[.int .i64 L,.slice A n c]
 sl:Sl 2 encR W W.heap.size A n c rs
section
variable{w W W':World}{B0:Nat}{L:Int}{A:Option Addr}{n c:Nat}{rs:List Rg}
theorem LW.later(h:LW w W B0 L A n c rs)(hb:Below W.heap.size W W'):LW w W' B0 L A n c rs:=⟨Below.later h.bel hb,h.b0.later hb,h.sl.later hb⟩
theorem LW.cells(h:LW w W B0 L A n c rs):W.cell? ⟨B0,0,none⟩=some (.int .i64 L)/\W.cell? ⟨B0,1,none⟩=some (.slice A n c)/\B0<W.heap.size:=⟨h.b0.cell 0,h.b0.cell 1,h.b0.lt⟩
end
def rowP(a:Rg)(rs:List Rg):List Rg:=(rs.filter λb=>decide (a.lo<=b.hi)).map λb=>⟨a.lo,b.hi⟩
theorem winsL_rows(rs:List Rg):winsL rs=rs.flatMap λa=>rowP a rs:=rfl
def winsTo(rs:List Rg)(i:Nat):List Rg:=(rs.take i).flatMap λa=>rowP a rs
theorem winsTo_succ{rs:List Rg}{i:Nat}{a:Rg}(h:rs[i]? =some a):winsTo rs (i+1)=winsTo rs i++rowP a rs:=by
 obtain⟨h1,h2⟩:=List.getElem?_eq_some_iff.1 h
 unfold winsTo
 rw[List.take_succ_eq_append_getElem h1,h2,List.flatMap_append]
 simp
theorem rowP_len(a:Rg)(rs:List Rg):(rowP a rs).length<=rs.length:=by
 unfold rowP
 rw[List.length_map]
 exact List.length_filter_le _ _
theorem rowP_succ{rs:List Rg}{k:Nat}{a b:Rg}(h:rs[k]? =some b):rowP a (rs.take (k+1))=rowP a (rs.take k)++if a.lo<=b.hi then [⟨a.lo,b.hi⟩]else []:=by
 obtain⟨h1,h2⟩:=List.getElem?_eq_some_iff.1 h
 unfold rowP
 rw[List.take_succ_eq_append_getElem h1,h2,List.filter_append,List.map_append]
 by_cases hc:a.lo<=b.hi<;>simp[hc]
theorem flat_len(rs:List Rg):∀l:List Rg,(l.flatMap λa=>rowP a rs).length<=l.length*rs.length
 |[]=>by simp
 |a::l=>by
  have h1:=flat_len rs l
  have h2:=rowP_len a rs
  rw[List.flatMap_cons,List.length_append,List.length_cons,Nat.add_mul]
  omega
structure WW(w W:World)(L:Int)(A:Option Addr)(n c:Nat)(v:Value)(xs:List Rg):Prop where
 bel:Below w.heap.size w W
 b0:Blk W w.heap.size 33 #[.int .i64 L,.slice A n c]
 own:W.ownsRow (w.heap.size+1) 36 2 v xs.length (xs.flatMap encR)
section
variable{w W W':World}{L:Int}{A:Option Addr}{n c:Nat}{v:Value}{xs:List Rg}
theorem WW.later(h:WW w W L A n c v xs)(hb:Below W.heap.size W W'):WW w W' L A n c v xs:=⟨Below.later h.bel hb,h.b0.later hb,own_later h.own hb⟩
theorem WW.grown{v':Value}(h:WW w W L A n c v xs)(x:Rg)(hg:W.grownBy W' v.ownBlock)(ho:W'.ownsRow (w.heap.size+1) 36 2 v' (xs.length+1) (xs.flatMap encR++encR x)):WW w W' L A n c v' (xs++[x]):=by
 have hrow:∀k,v.ownBlock=some k->w.heap.size+1<=k:=λk hk=>(h.own.lt k hk).1
 refine⟨h.bel.trans ⟨hg.os,hg.tape,hg.output,hg.size,λi hi=>hg.block i (by have:=h.bel.size;omega) (λe=>by have:=hrow i e.symm;omega)⟩,h.b0.grown hg (h.b0.notRow h.own (by decide)),?_⟩
 simpa[List.flatMap_append]using ho
end
set_option maxRecDepth 100000 in
set_option maxHeartbeats 4000000 in
theorem refWins_any(L:Int)(A:Option Addr)(n c:Nat)(rs:List Rg)(w:World)(hs:Sl 2 encR w w.heap.size A n c rs)(hr:RsOk rs):
 Calls Tryz.prog 110 #[.agg #[.int .i64 L,.slice A n c]] w λe w'=>∃v,e=.returned v/\Below w.heap.size w w'/\w'.ownsRow w.heap.size 36 2 v (winsL rs).length ((winsL rs).flatMap encR):=by
 obtain rfl:=hs.len
 have hn10:=hr.1
 have Hs:=Lib.hid hs
 have Hr:=Lib.hid hr
 have HS0:=Lib.hid (show WW w (w.alloc (.cells #[.int .i64 L,.slice A rs.length c] 33)) L A rs.length c (.slice none 0 0) []from⟨balloc (brefl w) _,Blk.new w _ _,World.ownsRow_nil _ _ _ _⟩)
 clear hs hr
 go_enter Tryz.func110,Tryz.ntmps110
 go_wp2_with fail
 refine loop_n (λm a W=>a.defers=[]/\∃(i:Nat)(v:Value),i+m=rs.length/\WW w W L A rs.length c v (winsTo rs i)/\Fits (none::some (.pointer (some ⟨w.heap.size,0,none⟩))::none::some (v)::some (.int .i64 (i:Nat))::none::none::none::none::none::none::none::none::none::none::none::none::none::none::none::none::none::none::none::none::none::none::none::none::none::none::none::none::none::none::none::none::none::none::none::none::none::none::none::none::none::none::none::none::none::[]) a.tmps.toList) rs.length ?_ ?_
 ·refine⟨rfl,0,_,by omega,HS0.out,?_⟩
  repeat (first|exact fits_nil|refine fits_none ?_|refine fits_some ?_)
 clear HS0
 intro m a W hI K hK
 obtain⟨hds,i,v,him,hC,hfit⟩:=hI
 obtain⟨f,hf⟩:=fits_act hfit
 rw[hds]at hf
 subst hf
 clear hfit hds
 simp only[fillP,Nat.reduceAdd]
 have c1:=hC.b0.cell 1
 have c2:=hC.b0.lt
 have HC:=Lib.hid hC
 by_cases hlt:i<rs.length
 ·have hax:=List.getElem?_eq_getElem hlt
  obtain⟨a,ha⟩:∃a,rs[i]=a:=⟨_,rfl⟩
  rw[ha]at hax
  have Hax:=Lib.hid hax
  have hsu:=winsTo_succ hax
  have hfl:=flat_len rs (rs.take i)
  have hfb:(winsTo rs i).length<=100:=by
   unfold winsTo
   have h1:(rs.take i).length*rs.length<=10*10:=Nat.mul_le_mul (by simp;omega) hn10
   omega
  obtain⟨ys,hys⟩:∃ys,winsTo rs i=ys:=⟨_,rfl⟩
  rw[hys]at hC HC hsu hfb
  have Hsu:=Lib.hid hsu
  have i1:(i:Int)<(rs.length:Int):=by omega
  have i2:(0:Int)<=(i:Int):=by omega
  have i3:IntKind.i64.wrap ((i:Int)+1)=(i:Int)+1:=by rw[IntKind.wrap_i64];omega
  clear hC hsu hys hfl hax ha
  go_wp2_with fail
  clear c1 c2
  refine loop_n (λq b V=>b.defers=[]/\∃(k:Nat)(u:Value),k+q=rs.length/\WW w V L A rs.length c u (ys++rowP a (rs.take k))/\Fits (none::some (.pointer (some ⟨w.heap.size,0,none⟩))::none::some (u)::some (.int .i64 (i:Nat))::some (.int .i64 (k:Nat))::none::none::none::none::none::none::none::none::none::none::none::none::none::none::none::none::none::none::none::none::none::none::none::none::none::none::none::none::none::none::none::none::none::none::none::none::none::none::none::none::none::none::none::none::[]) b.tmps.toList) rs.length ?_ ?_
  ·refine⟨rfl,0,v,by omega,by rw[show rowP a (rs.take 0)=[]from rfl,List.append_nil];exact HC.out,?_⟩
   repeat (first|exact fits_nil|refine fits_none ?_|refine fits_some ?_)
  clear HC W
  intro q b V hI K2 hK2
  obtain⟨hds,k,u,hkq,hC,hfit⟩:=hI
  obtain⟨g,hg⟩:=fits_act hfit
  rw[hds]at hg
  subst hg
  clear hfit hds
  simp only[fillP,Nat.reduceAdd]
  have c1:=hC.b0.cell 1
  have c2:=hC.b0.lt
  have HC:=Lib.hid hC
  by_cases hlk:k<rs.length
  ·obtain⟨rb,ro,_,rfl,hrw,_,_,_⟩:=Hs.out.ltR hlt
   obtain⟨rb',ro',a',hA',hrb,hrx,g0,_⟩:=(Hs.out.later hC.bel).ltR hlt
   cases hA'
   rw[Hax.out]at hrx
   cases hrx
   obtain⟨rb',ro',b,hA',_,hbx,_,g1⟩:=(Hs.out.later hC.bel).ltR hlk
   cases hA'
   have hrow:=rowP_succ (a:=a) hbx
   have hrl:=rowP_len a (rs.take k)
   obtain⟨zs,hzs⟩:∃zs,ys++rowP a (rs.take k)=zs:=⟨_,rfl⟩
   have hzl:zs.length<=200:=by rw[<-hzs,List.length_append];simp at hrl;omega
   have hnx:ys++rowP a (rs.take (k+1))=zs++if a.lo<=b.hi then [⟨a.lo,b.hi⟩]else []:=by rw[hrow,<-hzs,List.append_assoc]
   rw[hzs]at hC HC
   have Hnx:=Lib.hid hnx
   have k1:(k:Int)<(rs.length:Int):=by omega
   have k2:(0:Int)<=(k:Int):=by omega
   have k3:IntKind.i64.wrap ((k:Int)+1)=(k:Int)+1:=by rw[IntKind.wrap_i64];omega
   obtain⟨i0,hi0,hz0,hz1,hz2⟩:=info_parts info_rg
   have hwz:=hC.bel.size
   have hv0:u.ownBlock≠some w.heap.size:=λe=>by have:=(HC.out.own.lt _ e).1;omega
   have hvr:u.ownBlock≠some rb:=λe=>by have:=(HC.out.own.lt _ e).1;omega
   obtain⟨lo,hlo⟩:∃lo,a.lo=lo:=⟨_,rfl⟩
   obtain⟨hi,hhi⟩:∃hi,b.hi=hi:=⟨_,rfl⟩
   rw[hlo]at g0 Hnx
   rw[hhi]at g1 Hnx
   clear hC hbx hrow hrl hzs hnx hlo hhi
   by_cases hle:lo<=hi
   ·rw[if_pos hle]at Hnx
    go_wp2_with fail
    refine dag 13 (by kernel_rfl) (by kernel_rfl) (.is ?_::.is ?_::.is ?_::.is ?_::.is ?_::.is ?_::.is ?_::.is ?_::.is ?_::.is ?_::.is ?_::.is ?_::.is ?_::[]) rfl ?st1 ?ob1
    case st1=>simp[Spec.ok]
    case ob1=>
    intro env W hG
    obtain⟨hc,hf⟩:=bcell hG
    repeat (refine obls_is ?_ ?_;unfold doesAt;go_simp;(try go_bits);(first|(refine⟨brefl _,?_⟩;rfl)|rfl);intro K hK;go_simp;refine hK _ ?_;clear hK K)
    refine obls_nil (λ_=>?_)
    have HC2:=Lib.hid (HC.out.later hG)
    have d1:=HC2.out.b0.cell 1
    have d2:=HC2.out.b0.lt
    have e0:=(hG.cell (p:=⟨rb,ro+i*2,none⟩) hrb).trans g0
    have e1:=(hG.cell (p:=⟨rb,ro+k*2+1,none⟩) hrb).trans g1
    have e2:=Nat.lt_of_lt_of_le hrb hG.size
    have hwz2:=HC2.out.bel.size
    clear hc hf hG HC c1 c2 g0 g1 hrb hwz
    go_wp2_with fail
    go_region_held3 (λw'=>w'.cell? ⟨w.heap.size,1,none⟩=some (.slice (some ⟨rb,ro,none⟩) rs.length c)/\w'.cell? ⟨rb,ro+i*2,none⟩=some (.int .i64 lo)/\w'.cell? ⟨rb,ro+k*2+1,none⟩=some (.int .i64 hi))
     (first
       |go_keep
       |(go_split_ands
         refine⟨?_,?_,?_⟩
         ·(rw[hgrow.cell_far _ (by simp;omega) (Ne.symm hv0)];assumption)
         ·(rw[hgrow.cell_far _ (by simp;omega) (Ne.symm hvr)];assumption)
         ·(rw[hgrow.cell_far _ (by simp;omega) (Ne.symm hvr)];assumption)))
     ((refine step_append_lies _ (by rfl) _ _ _ (by rfl) (w.heap.size+1) 36 i0 _ 2 16 und_rgs hi0 hz0 hz1 hz2 rfl (by omega) u zs.length _ (by rfl) ((HC2.out.own.alloc _).drew)
        ⟨W.heap.size,0,none⟩ 1 1 [.int .i64 lo,.int .i64 hi] (by rfl) (by rfl) (World.news_of_block (cs:=#[.int .i64 lo,.int .i64 hi]) (t:=36) (fr:=(0,0)) (heap_alloc_new W _)) (by simp[Value.oneCell'])
        (by omega) (by simp only[maxLen];omega) (by omega) (by simp;omega) (W.heap.size+1) (by simp) ?_;intro gg cap w3 hown1 hgrow hat hlt'))
    have hP3:=(HC2.out.later (bdrew (balloc (brefl W) (.cells #[.int .i64 lo,.int .i64 hi] 36)) 1)).grown ⟨lo,hi⟩ hgrow hown1
    rw[<-Hnx.out]at hP3
    have HP3:=Lib.hid hP3
    clear hown1 hgrow hat hP3 hlt'
    go_wp2
    refine hK2 _ _ (q-1) (by omega) ⟨rfl,k+1,_,by omega,HP3.out,?_⟩
    repeat (first|exact fits_nil|refine fits_none ?_|refine fits_some ?_)
   ·rw[if_neg hle,List.append_nil]at Hnx
    go_wp2_with fail
    refine dag 13 (by kernel_rfl) (by kernel_rfl) (.is ?_::.is ?_::.is ?_::.is ?_::.is ?_::.is ?_::.is ?_::.is ?_::.is ?_::.is ?_::.is ?_::.is ?_::.is ?_::[]) rfl ?st2 ?ob2
    case st2=>simp[Spec.ok]
    case ob2=>
    intro env W hG
    obtain⟨hc,hf⟩:=bcell hG
    repeat (refine obls_is ?_ ?_;unfold doesAt;go_simp;(try go_bits);(first|(refine⟨brefl _,?_⟩;rfl)|rfl);intro K hK;go_simp;refine hK _ ?_;clear hK K)
    refine obls_nil (λ_=>?_)
    have HC2:=HC.out.later hG
    rw[<-Hnx.out]at HC2
    have HC3:=Lib.hid HC2
    clear hc hf hG HC HC2
    go_wp2
    refine hK2 _ _ (q-1) (by omega) ⟨rfl,k+1,_,by omega,HC3.out,?_⟩
    repeat (first|exact fits_nil|refine fits_none ?_|refine fits_some ?_)
  ·obtain rfl:k=rs.length:=by omega
   rw[List.take_length,<-Hsu.out]at HC
   clear hK2 hC
   go_wp2
   refine hK _ _ (m-1) (by omega) ⟨rfl,i+1,_,by omega,HC.out,?_⟩
   repeat (first|exact fits_nil|refine fits_none ?_|refine fits_some ?_)
 ·obtain rfl:i=rs.length:=by omega
  have hw:winsTo rs rs.length=winsL rs:=by unfold winsTo;rw[List.take_length];rfl
  rw[hw]at HC
  clear hK hC hw
  go_wp2
  go_ret
  exact⟨_,rfl,HC.out.bel,own_low HC.out.own (by omega)⟩
end Go.Proofs.YtednconodjeniaaGreat
namespace Go.Proofs.YtednconodjeniaaGreat
open Go.RowKit Go.Shelf
structure LB(w W:World)(N2:Nat)(L:Int)(A:Option Addr)(n c:Nat)(G:Option Addr)(m d:Nat)(rs:List Rg)(v:Value)(xs:List Int):Prop where
 bel:Below w.heap.size w W
 b0:Blk W w.heap.size 33 #[.int .i64 L,.slice A n c]
 hr:Blk W (w.heap.size+1) 2 (numArr 102 λ_=>0)
 wn:W.ownsRow (w.heap.size+1+1) 36 2 (.slice G m d) m ((winsL rs).flatMap encR)
 own:W.ownsRow N2 2 1 v xs.length (xs.map (.int .i64))
 hlt:w.heap.size+1<N2
 hle:N2<=W.heap.size
section
variable{w W W':World}{N2:Nat}{L:Int}{A:Option Addr}{n c:Nat}{G:Option Addr}{m d:Nat}{rs:List Rg}{v:Value}{xs:List Int}
theorem LB.later(h:LB w W N2 L A n c G m d rs v xs)(hb:Below W.heap.size W W'):LB w W' N2 L A n c G m d rs v xs:=
 ⟨Below.later h.bel hb,h.b0.later hb,h.hr.later hb,own_later h.wn hb,own_later h.own hb,h.hlt,Nat.le_trans h.hle hb.size⟩
theorem LB.grown{v':Value}(h:LB w W N2 L A n c G m d rs v xs)(x:Int)(hg:W.grownBy W' v.ownBlock)(ho:W'.ownsRow N2 2 1 v' (xs.length+1) (xs.map (.int .i64)++[.int .i64 x])):LB w W' N2 L A n c G m d rs v' (xs++[x]):=by
 have hrow:∀k,v.ownBlock=some k->N2<=k:=λk hk=>(h.own.lt k hk).1
 have hb2:Below N2 W W':=⟨hg.os,hg.tape,hg.output,hg.size,λi hi=>hg.block i (by have:=h.hle;omega) (λe=>by have:=hrow i e.symm;omega)⟩
 have hw:=h.hlt
 refine⟨h.bel.trans (hb2.mono (by omega)),h.b0.grown hg (λe=>by have:=hrow _ e;omega),h.hr.grown hg (λe=>by have:=hrow _ e;omega),own_grown h.wn hg (λg hv=>λe=>own_apart h.wn h.own (by decide) g hv e),?_,h.hlt,Nat.le_trans h.hle hg.size⟩
 rw[List.length_append,List.map_append]
 exact ho
end
theorem max_if(s x:Int):(if s<x then x else s)=max s x:=by split<;>omega
theorem wins_len{rs:List Rg}(hn10:rs.length<=10):(winsL rs).length<=100:=by
 have h1:=flat_len rs rs
 have h2:rs.length*rs.length<=10*10:=Nat.mul_le_mul hn10 hn10
 rw[winsL_rows]
 omega
structure LC(w W:World)(N2:Nat)(L:Int)(A:Option Addr)(n c:Nat)(G:Option Addr)(m d:Nat)(rs:List Rg)(v:Value)(xs:List Int)(M:Nat->Int):Prop where
 bel:Below w.heap.size w W
 hr:Blk W (w.heap.size+1) 2 (numArr 102 M)
 wn:W.ownsRow (w.heap.size+1+1) 36 2 (.slice G m d) m ((winsL rs).flatMap encR)
 own:W.ownsRow N2 2 1 v xs.length (xs.map (.int .i64))
 hlt:w.heap.size+1<N2
section
variable{w W W':World}{N2:Nat}{L:Int}{A:Option Addr}{n c:Nat}{G:Option Addr}{m d:Nat}{rs:List Rg}{v:Value}{xs:List Int}{M:Nat->Int}
theorem LC.later(h:LC w W N2 L A n c G m d rs v xs M)(hb:Below W.heap.size W W'):LC w W' N2 L A n c G m d rs v xs M:=
 ⟨Below.later h.bel hb,h.hr.later hb,own_later h.wn hb,own_later h.own hb,h.hlt⟩
theorem LC.set(h:LC w W N2 L A n c G m d rs v xs M)(j:Nat)(x:Int):LC w (W.setCell ⟨w.heap.size+1,j,none⟩ (.int .i64 x)) N2 L A n c G m d rs v xs (updN M j x):=by
 refine⟨bset h.bel (by simp) _,?_,own_other h.wn _ (λe=>by have h0:w.heap.size+1+1<=w.heap.size+1:=own_base h.wn _ e;omega) _,own_other h.own _ (λe=>by have h0:N2<=w.heap.size+1:=own_base h.own _ e;have:=h.hlt;omega) _,h.hlt⟩
 have h1:=h.hr.set j (.int .i64 x)
 rw[numArr_set]at h1
 exact h1
theorem LC.congr{M':Nat->Int}(h:LC w W N2 L A n c G m d rs v xs M)(hM:M=M'):LC w W N2 L A n c G m d rs v xs M':=hM▸h
theorem LC.sl(h:LC w W N2 L A n c G m d rs v xs M)(hm:(winsL rs).length=m):Sl 2 encR W W.heap.size G m d (winsL rs):=by
 obtain⟨Gx,dx,hGx,hslx⟩:=own_slG (enc:=encR) (λ_=>rfl) h.wn hm
 simp only[Value.slice.injEq]at hGx
 obtain⟨rfl,_,rfl⟩:=hGx
 exact hslx
theorem LC.done(h:LC w W N2 L A n c G m d rs v xs M):Sl 1 encI W W.heap.size (some ⟨w.heap.size+1,0,none⟩) 102 102 ((List.range 102).map M):=
 ⟨by simp,Nat.le_refl _,by omega,λ_=>⟨w.heap.size+1,0,rfl,h.hr.lt,λi x hx j u hu=>by
     have hi:=(List.getElem?_eq_some_iff.1 hx).1
     have hj:=(List.getElem?_eq_some_iff.1 hu).1
     simp[encI]at hj
     subst hj
     have hi':i<102:=by simpa using hi
     rw[show 0+i*1+0=i by omega,h.hr.cell,numArr_get hi']
     rw[List.getElem?_map,List.getElem?_range hi']at hx
     simp at hx
     subst hx
     simpa[encI]using hu⟩⟩
end
set_option maxRecDepth 100000 in
set_option maxHeartbeats 4000000 in
theorem refLeast_any(L:Nat)(A:Option Addr)(n c:Nat)(rs:List Rg)(w:World)(hs:Sl 2 encR w w.heap.size A n c rs)(hr:RsOk rs)(hL:1<=L/\L<=10):
 Calls Tryz.prog 51 #[.agg #[.int .i64 (L:Int),.slice A n c]] w λe w'=>∃g,e=.returned (.slice (some ⟨g,0,none⟩) 102 102)/\Below w.heap.size w w'/\Sl 1 encI w' w'.heap.size (some ⟨g,0,none⟩) 102 102 ((List.range 102).map (LA rs L)):=by
 obtain rfl:=hs.len
 have hn10:=hr.1
 have Hs:=Lib.hid hs
 have Hr:=Lib.hid hr
 clear hs hr
 have hmk:∀W:World,(Instr.makeSlice 43 (.int .i64 102) (.int .i64 102)).run Tryz.prog W=.ok (.slice (some ⟨W.heap.size,0,none⟩) 102 102) (W.alloc (.cells (numArr 102 (λ_=>0)) 2)):=λW=>make_longs 102 (by omega) W
 have hb1:=Blk.new (w.alloc (.cells #[.int .i64 (L:Int),.slice A rs.length c] 33)) 2 (numArr 102 λ_=>0)
 rw[World.size_alloc]at hb1
 have HK:=Lib.hid (show LW w ((w.alloc (.cells #[.int .i64 (L:Int),.slice A rs.length c] 33)).alloc (.cells (numArr 102 λ_=>0) 2)) w.heap.size (L:Int) A rs.length c rs from⟨balloc (balloc (brefl w) _) _,(Blk.new w _ _).alloc _,Hs.out.later (balloc (balloc (brefl w) _) _)⟩)
 have HB:=Lib.hid hb1
 clear hb1
 obtain⟨c0,c1,c2⟩:=HK.out.cells
 go_enter Tryz.func51,Tryz.ntmps51
 go_wp2_with fail
 refine(refWins_any (L:Int) A rs.length c rs _ HK.out.sl Hr.out).mono ?_
 rintro e w2⟨v0,rfl,hb2,hown⟩
 obtain⟨G,d,rfl,hsl⟩:=own_slG (enc:=encR) (λ_=>rfl) hown rfl
 have HK2:=Lib.hid (HK.out.later hb2)
 have HB2:=Lib.hid (HB.out.later hb2)
 have hlt2:w.heap.size+1<w2.heap.size:=HB2.out.lt
 have hown2:=own_low (base:=w.heap.size+1+1) hown (by simp[World.size_alloc])
 have HL0:=Lib.hid (show LB w w2 w2.heap.size (L:Int) A rs.length c G (winsL rs).length d rs (.slice none 0 0) []from⟨HK2.out.bel,HK2.out.b0,HB2.out,hown2,World.ownsRow_nil _ _ _ _,hlt2,Nat.le_refl _⟩)
 clear hb2 hown hown2 hsl HB HK c0 c1 c2 hmk
 obtain⟨N2,hN2⟩:∃N2,w2.heap.size=N2:=⟨_,rfl⟩
 rw[hN2]at HL0
 clear hN2 hlt2 HK2 HB2
 obtain⟨mm,hmm⟩:∃mm,(winsL rs).length=mm:=⟨_,rfl⟩
 have Hmm:=Lib.hid hmm
 rw[hmm]at HL0 ⊢
 clear hmm
 go_wp2_with fail
 refine loop_n (λq a W=>a.defers=[]/\∃(i:Nat)(v:Value),i+q=mm/\LB w W N2 (L:Int) A rs.length c G mm d rs v (((winsL rs).take i).map (needP (L:Int) rs))/\Fits (none::some (.pointer (some ⟨w.heap.size,0,none⟩))::none::some (.slice (some ⟨w.heap.size+1,0,none⟩) 102 102)::some (.slice G mm d)::some (v)::some (.int .i64 (i:Nat))::none::none::none::none::none::none::none::none::none::none::none::none::none::none::none::none::none::none::none::none::none::none::none::none::none::none::none::none::none::none::none::none::none::none::none::none::none::none::none::none::none::none::none::none::none::none::none::none::none::none::none::none::none::none::none::none::none::none::none::none::none::none::none::none::none::none::none::none::[]) a.tmps.toList) mm ?_ ?_
 ·refine⟨rfl,0,_,by omega,HL0.out,?_⟩
  repeat (first|exact fits_nil|refine fits_none ?_|refine fits_some ?_)
 clear HL0
 intro q a W hI K hK
 obtain⟨hds,i,v,hiq,hB,hfit⟩:=hI
 obtain⟨f,hf⟩:=fits_act hfit
 rw[hds]at hf
 subst hf
 clear hfit hds
 simp only[fillP,Nat.reduceAdd]
 have c0:=hB.b0.cell 0
 have c1:=hB.b0.cell 1
 have c2:=hB.b0.lt
 have HB:=Lib.hid hB
 by_cases hlt:i<mm
 ·obtain⟨Gx,dx,hGx,hslx⟩:=own_slG (enc:=encR) (λ_=>rfl) hB.wn Hmm.out
  simp only[Value.slice.injEq]at hGx
  obtain⟨rfl,_,rfl⟩:=hGx
  obtain⟨rb,ro,r,rfl,hrb,hrx,g0,g1⟩:=hslx.ltR hlt
  have hadd:((winsL rs).take (i+1)).map (needP (L:Int) rs)=((winsL rs).take i).map (needP (L:Int) rs)++[needP (L:Int) rs r]:=by
   obtain⟨h1,h2⟩:=List.getElem?_eq_some_iff.1 hrx
   rw[List.take_succ_eq_append_getElem h1,h2,List.map_append]
   rfl
  have hml:mm<=100:=by rw[<-Hmm.out];exact wins_len hn10
  obtain⟨xs,hxs⟩:∃xs,((winsL rs).take i).map (needP (L:Int) rs)=xs:=⟨_,rfl⟩
  have hxl:xs.length<=100:=by rw[<-hxs];simp;omega
  rw[hxs]at hB HB hadd
  obtain⟨z,hz⟩:∃z,needP (L:Int) rs r=z:=⟨_,rfl⟩
  rw[hz]at hadd
  have Hadd:=Lib.hid hadd
  have Hz:=Lib.hid hz
  have i1:(i:Int)<(mm:Int):=by omega
  have i2:(0:Int)<=(i:Int):=by omega
  have i3:IntKind.i64.wrap ((i:Int)+1)=(i:Int)+1:=by rw[IntKind.wrap_i64];omega
  obtain⟨i0,hi0,hz0,hz1,hz2⟩:=info_parts info_long
  have hlw:=hB.hle
  have hrb2:rb<W.heap.size:=hrb
  have hneed:=Lib.hid (λ(V:World)(h:Below W.heap.size W V)=>refNeed_any (L:Int) A rs.length c rs r V ((Hs.out.later hB.bel).later h) (by omega) (by omega))
  clear hB hrx hadd hxs hz
  go_wp2_with fail
  go_region_law
   ((first
     |(refine step_append_lies _ (by rfl) _ _ _ (by rfl) N2 2 i0 _ 1 8 und_longs hi0 hz0 hz1 hz2 rfl (by omega) v xs.length _ (by rfl) (HX.out.own.alloc _) ⟨w5.heap.size,0,none⟩ 1 1 [.int .i64 z] (by rfl) (by rfl) (World.news_of_block (cs:=#[.int .i64 z]) (t:=2) (fr:=(0,0)) (heap_alloc_new w5 _)) (by simp[Value.oneCell']) (by omega) (by simp only[maxLen];omega) (by omega) (by have:=HX.out.hle;simp;omega) (w5.heap.size+1) (by simp) ?_;intro gg cap w3 hown1 hgrow hat hlt')
     |(go_simp;go_at_call 111;refine(hneed.out _ (bdrew (brefl _) 1)).mono ?_;rintro e w5 ⟨rfl,hb5⟩;rw[Hz.out];have HX:=Lib.hid ((HB.out.later (bdrew (brefl _) 1)).later hb5))))
  all_goals
   have hP3:=(HX.out.later (balloc (brefl w5) (.cells #[.int .i64 z] 2))).grown z hgrow hown1
   rw[<-Hadd.out]at hP3
   have HP3:=Lib.hid hP3
   clear hown1 hgrow hat hP3 hlt'
   go_wp2
   refine hK _ _ (q-1) (by omega) ⟨rfl,i+1,_,by omega,HP3.out,?_⟩
   repeat (first|exact fits_nil|refine fits_none ?_|refine fits_some ?_)
 ·obtain rfl:i=mm:=by omega
  have hE:(winsL rs).take i=winsL rs:=by rw[<-Hmm.out];exact List.take_length
  rw[hE]at HB
  obtain⟨xs,hxs⟩:∃xs,(winsL rs).map (needP (L:Int) rs)=xs:=⟨_,rfl⟩
  rw[hxs]at HB
  have hxl:xs.length=i:=by rw[<-hxs,List.length_map];exact Hmm.out
  have Hxs:=Lib.hid hxs
  have HM0:=Lib.hid (show LC w W N2 (L:Int) A rs.length c G i d rs v xs (λ_=>0)from⟨HB.out.bel,HB.out.hr,HB.out.wn,HB.out.own,HB.out.hlt⟩)
  have hv:∃VA vc,v=.slice VA i vc:=by
   obtain⟨VA,vc,h1,_⟩:=own_slI HB.out.own rfl
   rw[hxl]at h1
   exact⟨VA,vc,h1⟩
  obtain⟨VA,vc,rfl⟩:=hv
  have Hxl:=Lib.hid hxl
  clear hK hB hE c0 c1 c2 HB hlt hxs hxl hiq
  obtain⟨mm,hmm⟩:∃mm,i=mm:=⟨_,rfl⟩
  rw[hmm]at HM0 Hmm Hxl ⊢
  clear hmm
  go_wp2_with fail
  refine loop_n (λq a W=>a.defers=[]/\∃(k h:Nat)(M:Nat->Int),h+q=102/\h=k+1/\LC w W N2 (L:Int) A rs.length c G mm d rs (.slice VA mm vc) xs M/\(∀j,j<h->M j=LA rs L j)/\Fits (none::some (.pointer (some ⟨w.heap.size,0,none⟩))::none::some (.slice (some ⟨w.heap.size+1,0,none⟩) 102 102)::some (.slice G mm d)::some (.slice VA mm vc)::none::some (.int .i64 (h:Nat))::none::none::none::none::none::none::none::none::none::none::none::none::none::none::none::none::none::none::none::none::none::none::none::none::none::none::none::none::none::none::none::none::none::none::none::none::none::none::none::none::none::none::none::none::none::none::none::none::none::none::none::none::none::none::none::none::none::none::none::none::none::none::none::none::none::none::none::[]) a.tmps.toList) 101 ?_ ?_
  ·refine⟨rfl,0,1,_,by omega,rfl,HM0.out,λj hj=>?_,?_⟩
   ·obtain rfl:j=0:=by omega
    rfl
   repeat (first|exact fits_nil|refine fits_none ?_|refine fits_some ?_)
  clear HM0
  clear W
  intro q a W hI K hK
  obtain⟨hds,k,h,M,hq,hhk,hC,hM,hfit⟩:=hI
  obtain⟨f,hf⟩:=fits_act hfit
  rw[hds]at hf
  subst hf
  clear hfit hds
  simp only[fillP,Nat.reduceAdd]
  have HC:=Lib.hid hC
  have HM:=Lib.hid hM
  have Hhk:=Lib.hid hhk
  by_cases hlt:h<=101
  ·have i1:(h:Int)<=101:=by omega
   have i2:(0:Int)<=(h:Int):=by omega
   have i3:IntKind.i64.wrap ((h:Int)+1)=(h:Int)+1:=by rw[IntKind.wrap_i64];omega
   have i4:IntKind.i64.wrap ((h:Int)-1)=(k:Int):=by rw[IntKind.wrap_i64];omega
   have i5:(0:Int)<=(k:Int):=by omega
   have i6:(k:Int)<102:=by omega
   have i7:(h:Int)<102:=by omega
   have b0:W.cell? ⟨w.heap.size+1,k,none⟩=some (.int .i64 (M k)):=by rw[hC.hr.cell,numArr_get (by omega)]
   have b1:W.cell? ⟨w.heap.size+1,h,none⟩=some (.int .i64 (M h)):=by rw[hC.hr.cell,numArr_get (by omega)]
   have b2:=hC.hr.frozen h
   have b3:=hC.hr.lt
   have hkh:¬h=k:=by omega
   have hk100:k<=100:=by omega
   obtain⟨x,hx⟩:∃x,M k=x:=⟨_,rfl⟩
   have hxk:x=LA rs L k:=by rw[<-hx];exact hM k (by omega)
   have hHx:=hC.set h x
   have HC1:=Lib.hid hHx
   have HM1:=Lib.hid (show(∀j,j<h->updN M h x j=LA rs L j)/\updN M h x h=stepTo rs L k 0 from⟨λj hj=>by unfold updN;rw[if_neg (by omega)];exact hM j hj,by unfold updN;rw[if_pos rfl,stepTo_zero,hxk]⟩)
   rw[hx]at b0
   clear hC hM hhk HC HM hHx hxk hx hkh
   go_wp2_with fail
   clear b0 b1 b2 b3
   refine loop_n (λq a W=>a.defers=[]/\∃(i:Nat)(M:Nat->Int),i+q=mm/\LC w W N2 (L:Int) A rs.length c G mm d rs (.slice VA mm vc) xs M/\((∀j,j<h->M j=LA rs L j)/\M h=stepTo rs L k i)/\Fits (none::some (.pointer (some ⟨w.heap.size,0,none⟩))::none::some (.slice (some ⟨w.heap.size+1,0,none⟩) 102 102)::some (.slice G mm d)::some (.slice VA mm vc)::none::some (.int .i64 (h:Nat))::some (.int .i64 (i:Nat))::none::none::none::none::none::none::none::none::none::none::none::none::none::none::none::none::none::none::none::none::none::none::none::none::none::none::none::none::none::none::none::none::none::none::none::none::none::none::none::none::none::none::none::none::none::none::none::none::none::none::none::none::none::none::none::none::none::none::none::none::none::none::none::none::none::none::[]) a.tmps.toList) mm ?_ ?_
   ·refine⟨rfl,0,_,by omega,HC1.out,HM1.out,?_⟩
    repeat (first|exact fits_nil|refine fits_none ?_|refine fits_some ?_)
   clear HC1 HM1 W
   intro q2 a W hI K2 hK2
   obtain⟨hds,i,M,hiq,hC,hM,hfit⟩:=hI
   obtain⟨f,hf⟩:=fits_act hfit
   rw[hds]at hf
   subst hf
   clear hfit hds
   simp only[fillP,Nat.reduceAdd]
   have HC:=Lib.hid hC
   have HM:=Lib.hid hM
   by_cases hli:i<mm
   ·obtain⟨rb,ro,r,rfl,hrb,hrx,g0,g1⟩:=(hC.sl Hmm.out).ltR hli
    have hwin:=wins_small Hr.out (List.mem_of_getElem? hrx)
    have hstep:=stepTo_succ (L:=L) (h:=k) hrx
    have hhi:=Hhk.out
    have hml:mm<=100:=by rw[<-Hmm.out];exact wins_len hn10
    have j1:(i:Int)<(mm:Int):=by omega
    have j2:(0:Int)<=(i:Int):=by omega
    have j3:IntKind.i64.wrap ((i:Int)+1)=(i:Int)+1:=by rw[IntKind.wrap_i64];omega
    by_cases hrh:r.hi=(k:Int)
    ·obtain⟨w1,w2,w3⟩:=hwin
     obtain⟨lo,hlo⟩:∃lo:Nat,r.lo=lo:=⟨r.lo.toNat,by omega⟩
     have hlok:lo<=k:=by omega
     obtain⟨s,hs⟩:∃s,M h=s:=⟨_,rfl⟩
     obtain⟨t,ht⟩:∃t,M lo=t:=⟨_,rfl⟩
     obtain⟨z,hz⟩:∃z,needP (L:Int) rs r=z:=⟨_,rfl⟩
     have ht2:LA rs L lo=t:=by rw[<-ht];exact(hM.1 lo (by omega)).symm
     have hb1:=la_win Hr.out L (List.mem_of_getElem? hrx)
     have hb2:=la_bound Hr.out hL (r.hi.toNat+1)
     have hb3:=need_nonneg rs L hL.1 r
     have hb4:=la_nonneg rs L lo
     rw[hlo,Int.toNat_natCast,ht2,hz]at hb1
     rw[hz]at hb3
     rw[ht2]at hb4
     have k1:IntKind.i64.wrap (t+z)=t+z:=by rw[IntKind.wrap_i64];omega
     rw[stepF,if_pos hrh,hlo,Int.toNat_natCast,ht2,hz,<-hM.2,hs]at hstep
     have y0:W.cell? ⟨w.heap.size+1,h,none⟩=some (.int .i64 s):=by rw[hC.hr.cell,numArr_get (by omega),hs]
     have y1:W.cell? ⟨w.heap.size+1,lo,none⟩=some (.int .i64 t):=by rw[hC.hr.cell,numArr_get (by omega),ht]
     have y2:=hC.hr.frozen h
     have y3:=hC.hr.lt
     obtain⟨VA',vc',hVA,hsx⟩:=own_slI hC.own rfl
     rw[Hxl.out]at hVA hsx
     simp only[Value.slice.injEq]at hVA
     obtain⟨rfl,_,rfl⟩:=hVA
     obtain⟨nb,no,z',rfl,hnb,hzx,z0⟩:=hsx.ltI hli
     have hzz:z'=z:=by
      rw[<-Hxs.out,List.getElem?_map,hrx]at hzx
      simpa[hz]using hzx.symm
     rw[hzz]at z0
     have k2:(0:Int)<=(lo:Int):=by omega
     have k3:(lo:Int)<102:=by omega
     rw[hlo]at g0
     rw[hrh]at g1
     have HM2:=Lib.hid (show(∀j,j<h->updN M h (if s<t+z then t+z else s) j=LA rs L j)/\updN M h (if s<t+z then t+z else s) h=stepTo rs L k (i+1)from⟨λj hj=>by unfold updN;rw[if_neg (by omega)];exact hM.1 j hj,by unfold updN;rw[if_pos rfl,hstep,max_if]⟩)
     clear hM hrx hstep hhi hrh HM hs ht hz ht2 hb1 hb2 hb3 hb4 hlo w1 w2 w3 hsx hzx hzz hC
     go_wp2_with fail
     refine dag 21 (by kernel_rfl) (by kernel_rfl) (.is ?_::.is ?_::.is ?_::.is ?_::.is ?_::.is ?_::.is ?_::.is ?_::.is ?_::.is ?_::.is ?_::.is ?_::.is ?_::.is ?_::.is ?_::.is ?_::.is ?_::.is ?_::.is ?_::.is ?_::.is ?_::[]) rfl ?st1 ?ob1
     case st1=>simp[Spec.ok]
     case ob1=>
     intro env V hG
     obtain⟨hc,hf⟩:=bcell hG
     repeat (refine obls_is ?_ ?_;unfold doesAt;go_simp;(try go_bits);(first|(refine⟨brefl _,?_⟩;rfl)|rfl);intro K hK;go_simp;refine hK _ ?_;clear hK K)
     refine obls_last (λ_=>?_)
     have v0:=(HC.out.later hG).hr.frozen h
     have v1:=(HC.out.later hG).hr.lt
     have v2:=(hc (w.heap.size+1) h y3).trans y0
     have HC2:=Lib.hid ((HC.out.later hG).set h (if s<t+z then t+z else s))
     clear hc hf hG HC y0 y1 y2 y3 z0 g0 g1 hrb hnb
     unfold doesAt
     go_simp
     obtain⟨y,hy⟩:∃y,(if s<t+z then t+z else s)=y:=⟨_,rfl⟩
     rw[hy]at HC2 HM2 ⊢
     clear hy
     go_wp2
     refine hK2 _ _ (q2-1) (by omega) ⟨rfl,i+1,_,by omega,HC2.out,HM2.out,?_⟩
     repeat (first|exact fits_nil|refine fits_none ?_|refine fits_some ?_)
    ·rw[stepF,if_neg hrh]at hstep
     have d1:(r.hi==(k:Int))=false:=by simpa using hrh
     have d2:decide (r.hi=(k:Int))=false:=by simpa using hrh
     have HM2:=Lib.hid (show(∀j,j<h->M j=LA rs L j)/\M h=stepTo rs L k (i+1)from⟨hM.1,hM.2.trans hstep.symm⟩)
     clear hC hM hrx hwin hstep hhi hrh HM
     go_wp2
     refine hK2 _ _ (q2-1) (by omega) ⟨rfl,i+1,M,by omega,HC.out,HM2.out,?_⟩
     repeat (first|exact fits_nil|refine fits_none ?_|refine fits_some ?_)
   ·obtain rfl:i=mm:=by omega
    have he:stepTo rs L k i=LA rs L h:=by rw[Hhk.out,<-Hmm.out];exact stepTo_all Hr.out L k
    have HM2:=Lib.hid (show∀j,j<h+1->M j=LA rs L j fromλj hj=>by
     by_cases e:j=h
     ·rw[e,hM.2,he]
     ·exact hM.1 j (by omega))
    clear hK2 hC hM HM he
    go_wp2
    refine hK _ _ (q-1) (by omega) ⟨rfl,h,h+1,M,by omega,rfl,HC.out,HM2.out,?_⟩
    repeat (first|exact fits_nil|refine fits_none ?_|refine fits_some ?_)
  ·have hh:h=102:=by omega
   have HE:=Lib.hid (show(List.range 102).map M=(List.range 102).map (LA rs L)from List.map_congr_left λj hj=>hM j (by have:=List.mem_range.1 hj;omega))
   have i1:¬((h:Int)<=101):=by omega
   clear hK hC hM hhk HM hlt hh
   go_wp2
   go_ret
   have h1:=HC.out.done
   rw[HE.out]at h1
   exact⟨w.heap.size+1,rfl,HC.out.bel,h1⟩
end Go.Proofs.YtednconodjeniaaGreat
namespace Go.Proofs.YtednconodjeniaaGreat
open Go.RowKit Go.Shelf
theorem la_at_list{rs:List Rg}{L j:Nat}{x:Int}(h:((List.range 102).map (LA rs L))[j]? =some x):x=LA rs L j:=by
 have hj:j<102:=by have:=(List.getElem?_eq_some_iff.1 h).1;simpa using this
 rw[List.getElem?_map,List.getElem?_range hj]at h
 simpa using h.symm
set_option maxRecDepth 100000 in
set_option maxHeartbeats 1000000 in
theorem refFewestOf_any(L:Nat)(A:Option Addr)(n c:Nat)(rs:List Rg)(w:World)(hs:Sl 2 encR w w.heap.size A n c rs)(hr:RsOk rs)(hL:1<=L/\L<=10):
 Calls Tryz.prog 22 #[.agg #[.int .i64 (L:Int),.slice A n c]] w λe w'=>e=.returned (.int .i64 (LA rs L 101))/\Below w.heap.size w w':=by
 have HY:=Lib.hid (show YB w (w.alloc (.cells #[.int .i64 (L:Int),.slice A n c] 33)) (L:Int) A n c from⟨balloc (brefl w) _,Blk.new w _ _⟩)
 have hc:=Lib.hid (refLeast_any L A n c rs _ (hs.later HY.out.bel) hr hL)
 clear hs hr
 go_enter Tryz.func22,Tryz.ntmps22
 go_wp2_with fail
 refine hc.out.mono ?_
 rintro e w1⟨g,rfl,hb1,hsl⟩
 obtain⟨b,o,x,hA,hbl,hx,hcell⟩:=hsl.ltI (i:=101) (by omega)
 cases hA
 have hxe:=la_at_list hx
 subst hxe
 have HB:=Lib.hid (Below.later HY.out.bel hb1)
 clear hb1 hsl hx
 go_wp2
 go_ret
 exact⟨rfl,HB.out⟩
end Go.Proofs.YtednconodjeniaaGreat
