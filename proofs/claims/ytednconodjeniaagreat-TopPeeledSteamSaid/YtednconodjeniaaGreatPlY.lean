/- The walk of TopPeeledSteam. -/
import Derived.Test.YtednconodjeniaaGreatPlW
import Derived.Test.YtednconodjeniaaGreatTSRefL
import Derived.Test.YtednconodjeniaaGreatEvX
import Derived.Deep.AppendLies
namespace Go.Proofs.YtednconodjeniaaGreat.P
open Go.RowKit Go.Shelf
structure Rr where
 A:Option Addr
 n:Nat
 c:Nat
 xs:List Int
 L:Option Addr
 nl:Nat
 cl:Nat
 ls:List Rg
 H:Option Addr
 nh:Nat
 ch:Nat
 hs:List Rg
def encRr(r:Rr):List Value:=[.slice r.A r.n r.c,.slice r.L r.nl r.cl,.slice r.H r.nh r.ch]
structure PK(w W:World)(LA:Option Addr)(ln lc:Nat)(rs:List Rr)(BA:Option Addr)(bn bc:Nat)(bs:List Nat):Prop where
 bel:Below w.heap.size w W
 sl:Sl 3 encRr W W.heap.size LA ln lc rs
 rows:∀r∈rs,Sl 1 encI W W.heap.size r.A r.n r.c r.xs/\Sl 2 encR W W.heap.size r.L r.nl r.cl r.ls/\Sl 2 encR W W.heap.size r.H r.nh r.ch r.hs
 bl:Sl 1 encU W W.heap.size BA bn bc bs
theorem PK.later{w W W':World}{LA:Option Addr}{ln lc:Nat}{rs:List Rr}{BA:Option Addr}{bn bc:Nat}{bs:List Nat}(h:PK w W LA ln lc rs BA bn bc bs)(hb:Below W.heap.size W W'):PK w W' LA ln lc rs BA bn bc bs:=
 ⟨Below.later h.bel hb,h.sl.later hb,λr hr=>⟨(h.rows r hr).1.later hb,(h.rows r hr).2.1.later hb,(h.rows r hr).2.2.later hb⟩,h.bl.later hb⟩
structure RC(W:World)(b p:Nat)(A:Option Addr)(n c:Nat)(L:Option Addr)(nl cl:Nat)(H:Option Addr)(nh ch:Nat):Prop where
 lt:b<W.heap.size
 c0:W.cell? ⟨b,p,none⟩=some (.slice A n c)
 c1:W.cell? ⟨b,p+1,none⟩=some (.slice L nl cl)
 c2:W.cell? ⟨b,p+2,none⟩=some (.slice H nh ch)
section
variable{W W':World}{b p:Nat}{A L H:Option Addr}{n c nl cl nh ch:Nat}
theorem RC.later(h:RC W b p A n c L nl cl H nh ch)(hb:Below W.heap.size W W'):RC W' b p A n c L nl cl H nh ch:=
 ⟨Nat.lt_of_lt_of_le h.lt hb.size,(hb.cell (p:=⟨b,p,none⟩) h.lt).trans h.c0,(hb.cell (p:=⟨b,p+1,none⟩) h.lt).trans h.c1,(hb.cell (p:=⟨b,p+2,none⟩) h.lt).trans h.c2⟩
theorem RC.cells(h:RC W b p A n c L nl cl H nh ch):W.cell? ⟨b,p,none⟩=some (.slice A n c)/\W.cell? ⟨b,p+1,none⟩=some (.slice L nl cl)/\W.cell? ⟨b,p+2,none⟩=some (.slice H nh ch)/\b<W.heap.size:=⟨h.c0,h.c1,h.c2,h.lt⟩
end
structure QR(W:World)(s:Nat)(q:Int×Int):Prop where
 b:Blk W s 59 #[.int .i64 q.1,.int .i64 q.2]
theorem QR.later{W W':World}{s:Nat}{q:Int×Int}(h:QR W s q)(hb:Below W.heap.size W W'):QR W' s q:=⟨h.b.later hb⟩
theorem QR.cells{W:World}{s:Nat}{q:Int×Int}(h:QR W s q):W.cell? ⟨s,0,none⟩=some (.int .i64 q.1)/\W.cell? ⟨s,1,none⟩=some (.int .i64 q.2)/\s<W.heap.size:=⟨h.b.cell 0,h.b.cell 1,h.b.lt⟩
structure PYd(w W:World)(P:Nat)(Ld:Int)(v0 v:Value)(rg:List Rg)(u:Value)(hh:List Int):Prop where
 bel:Below w.heap.size w W
 bp:Blk W P 33 #[.int .i64 Ld,v0]
 own:W.ownsRow w.heap.size 36 2 v rg.length (rg.flatMap encR)
 ow:W.ownsRow w.heap.size 2 1 u hh.length (hh.map (.int .i64))
 ge:w.heap.size<=P
section
variable{w W W':World}{P:Nat}{Ld:Int}{v0 v u:Value}{rg:List Rg}{hh:List Int}
theorem PYd.later(h:PYd w W P Ld v0 v rg u hh)(hb:Below W.heap.size W W'):PYd w W' P Ld v0 v rg u hh:=⟨Below.later h.bel hb,h.bp.later hb,own_later h.own hb,own_later h.ow hb,h.ge⟩
theorem PYd.logs(h:PYd w W P Ld v0 v rg u hh){v':Value}{x:Rg}(hg:W.grownBy W' v.ownBlock)(ho:W'.ownsRow w.heap.size 36 2 v' (rg.length+1) (rg.flatMap encR++encR x)):PYd w W' P Ld v0 v' (rg++[x]) u hh:=
 ⟨below_row h.bel hg (own_base h.own) h.bel.size,h.bp.grown hg (h.bp.notRow h.own (by decide)),by simpa[List.flatMap_append]using ho,own_grown h.ow hg (λg e e2=>own_apart h.ow h.own (by decide) g e e2),h.ge⟩
theorem PYd.hours(h:PYd w W P Ld v0 v rg u hh){u':Value}{y:Int}(hg:W.grownBy W' u.ownBlock)(ho:W'.ownsRow w.heap.size 2 1 u' (hh.length+1) (hh.map (Value.int .i64)++[.int .i64 y])):PYd w W' P Ld v0 v rg u' (hh++[y]):=
 ⟨below_row h.bel hg (own_base h.ow) h.bel.size,h.bp.grown hg (h.bp.notRow h.ow (by decide)),own_grown h.own hg (λg e e2=>own_apart h.own h.ow (by decide) g e e2),by simpa using ho,h.ge⟩
theorem PYd.store(h:PYd w W P Ld v0 v rg u hh):PYd w (W.setCell ⟨P,1,none⟩ v) P Ld v v rg u hh:=
 ⟨bset h.bel (by exact h.ge) _,by simpa using h.bp.set 1 v,own_other h.own _ (h.bp.notRow h.own (by decide)) _,own_other h.ow _ (h.bp.notRow h.ow (by decide)) _,h.ge⟩
end
structure YT4(W:World)(P:Nat)(Ld:Nat)(A:Option Addr)(n c:Nat)(rs:List Rg):Prop where
 b0:Blk W P 33 #[.int .i64 Ld,.slice A n c]
 sl:Sl 2 encR W W.heap.size A n c rs
theorem YT4.later{W W':World}{P Ld:Nat}{A:Option Addr}{n c:Nat}{rs:List Rg}(h:YT4 W P Ld A n c rs)(hb:Below W.heap.size W W'):YT4 W' P Ld A n c rs:=⟨h.b0.later hb,h.sl.later hb⟩
theorem YT4.cells{W:World}{P Ld:Nat}{A:Option Addr}{n c:Nat}{rs:List Rg}(h:YT4 W P Ld A n c rs):W.cell? ⟨P,0,none⟩=some (.int .i64 Ld)/\W.cell? ⟨P,1,none⟩=some (.slice A n c)/\P<W.heap.size:=⟨h.b0.cell 0,h.b0.cell 1,h.b0.lt⟩
def Fine4(i:Nat)(rg:List Rg)(hh:List Int):Prop:=rg.length=i/\hh.length=i/\∀(k:Nat)(r:Rg)(h:Int),rg[k]? =some r->hh[k]? =some h->0<=r.lo/\r.lo<=h/\h<=r.hi/\r.hi<=100
theorem Fine4.snoc{i:Nat}{rg:List Rg}{hh:List Int}(f:Fine4 i rg hh){a b h:Int}(h1:0<=a)(h2:a<=h)(h3:h<=b)(h4:b<=100):Fine4 (i+1) (rg++[⟨a,b⟩]) (hh++[h]):=by
 obtain⟨f1,f2,f3⟩:=f
 refine⟨by simp[f1],by simp[f2],λk r x hr hx=>?_⟩
 by_cases e:k<i
 ·rw[List.getElem?_append_left (by omega)]at hr hx
  exact f3 k r x hr hx
 ·rw[List.getElem?_append_right (by omega)]at hr hx
  have hk:k=i:=by
   have:=(List.getElem?_eq_some_iff.1 hr).1
   simp at this
   omega
  subst hk
  rw[f1,Nat.sub_self]at hr
  rw[f2,Nat.sub_self]at hx
  simp at hr hx
  subst hr hx
  exact⟨h1,h2,h3,h4⟩
theorem fine_end{i:Nat}{rg:List Rg}{hh:List Int}{L:Nat}(f:Fine4 i rg hh)(hi:i<=4)(hL:1<=L/\L<=10):RsOk rg/\hoursE (L:Int) rg hh=0/\yardE (L:Int) rg=0/\fewV (L:Int) rg=LA rg L 101/\LA rg L 101<=hoursV (L:Int) rg hh:=by
 obtain⟨f1,f2,f3⟩:=f
 have hr:RsOk rg:=⟨by omega,λx hx=>by
  obtain⟨k,hk⟩:=List.mem_iff_getElem?.1 hx
  have hk2:=(List.getElem?_eq_some_iff.1 hk).1
  have:=f3 k x _ hk (List.getElem?_eq_getElem (by omega))
  omega⟩
 have hw:(hh.zip rg).any wrongB=false:=in_hours λk h r h1 h2=>by
  have:=f3 k r h h2 h1
  omega
 have hy:yardE (L:Int) rg=0:=yard_of (by omega) hr
 have he:hoursE (L:Int) rg hh=0:=by
  unfold hoursE
  rw[if_pos hy,if_pos (by omega),hw]
  rfl
 refine⟨hr,he,hy,?_,?_⟩
 ·unfold fewV
  rw[if_pos hy]
  rfl
 ·unfold hoursV
  rw[if_pos he]
  exact hours_least hr hL.1 (by omega) hw
set_option maxRecDepth 100000 in
set_option maxHeartbeats 8000000 in
theorem peeled_law(LA:Option Addr)(ln lc:Nat)(rs:List Rr)(BA:Option Addr)(bn bc:Nat)(bs:List Nat)(lu:Int)(w:World)(hk:PK w w LA ln lc rs BA bn bc bs)(hbd:∀x∈bs,x<65536)(hlu:0<=lu/\lu<=255):
 Calls Tryz.prog 4 #[.slice LA ln lc,.slice BA bn bc,.int .u8 lu] w λe w'=>e=.returned (.bool true)/\Below w.heap.size w w':=by
 have HL0:=Lib.hid hk
 have Hk:=Lib.hid hk
 have Hbd:=Lib.hid hbd
 clear hk hbd
 by_cases h4:(4:Int)<(ln:Int)
 case pos=>
  clear Hk
  go_enter Tryz.func4,Tryz.ntmps4
  go_wp2_with fail
  refine(Ev.works03 _).mono ?_
  rintro e we⟨rfl,hbe⟩
  have HBE:=Lib.hid (Below.later HL0.out.bel hbe)
  clear hbe
  go_wp2
  go_ret
  exact⟨rfl,HBE.out⟩
 case neg=>
 by_cases h20:(20:Int)<(bn:Int)
 case pos=>
  clear Hk
  go_enter Tryz.func4,Tryz.ntmps4
  go_wp2_with fail
  refine(Ev.works03 _).mono ?_
  rintro e we⟨rfl,hbe⟩
  have HBE:=Lib.hid (Below.later HL0.out.bel hbe)
  clear hbe
  go_wp2
  go_ret
  exact⟨rfl,HBE.out⟩
 case neg=>
 obtain⟨t,ht⟩:∃t,lu.tmod 10=t:=⟨_,rfl⟩
 have htr:0<=t/\t<10:=by
  rw[<-ht,Int.tmod_eq_emod_of_nonneg hlu.1]
  omega
 obtain⟨Ld,hLd⟩:∃Ld:Nat,1+t=Ld:=⟨(1+t).toNat,by omega⟩
 have HLd:=Lib.hid (show 1<=Ld/\Ld<=10 by omega)
 have k1:IntKind.i64.wrap lu=lu:=by rw[IntKind.wrap_i64];omega
 have k2:IntKind.i64.wrap t=t:=by rw[IntKind.wrap_i64];omega
 have k3:IntKind.i64.wrap (1+t)=(Ld:Int):=by rw[IntKind.wrap_i64];omega
 clear htr hLd hlu HL0
 have HT:=Lib.hid (show PYd w (w.alloc (.cells #[.int .i64 Ld,.slice none 0 0] 33)) w.heap.size (Ld:Int) (.slice none 0 0) (.slice none 0 0) [] (.slice none 0 0) []from
  ⟨balloc (brefl w) _,Blk.new _ _ _,World.ownsRow_nil _ _ _ _,World.ownsRow_nil _ _ _ _,Nat.le_refl _⟩)
 go_enter Tryz.func4,Tryz.ntmps4
 go_wp2_with fail
 clear k1 k2 k3 ht
 refine loop_n (λq a W=>a.defers=[]/\∃(i:Nat)(v u:Value)(rg:List Rg)(hh:List Int),i+q=ln/\PYd w W w.heap.size (Ld:Int) v v rg u hh/\Fine4 i rg hh/\Fits (some (.slice LA ln lc)::some (.slice BA bn bc)::none::none::none::none::none::some (.pointer (some ⟨w.heap.size,0,none⟩))::some (u)::some (.int .i64 (i:Nat))::none::none::none::none::none::none::none::none::none::none::none::none::none::none::none::none::none::none::none::none::none::none::none::none::none::none::none::none::none::none::none::none::none::none::none::none::none::none::none::none::none::none::none::none::none::none::none::none::none::none::none::none::none::none::none::none::none::none::none::none::none::none::none::none::none::none::none::none::none::none::none::none::none::none::none::none::none::none::none::none::none::none::none::none::none::none::none::none::none::none::none::none::none::none::none::none::none::none::none::none::none::none::none::none::none::none::none::none::none::none::none::none::none::none::none::none::none::none::none::none::none::none::none::none::none::none::none::none::none::none::none::none::none::none::none::none::none::none::none::none::none::none::none::none::none::none::none::none::none::none::none::none::none::none::none::none::none::none::[]) a.tmps.toList) ln ?_ ?_
 ·refine⟨rfl,0,_,_,[],[],by omega,HT.out,⟨rfl,rfl,λk r h hr=>by cases hr⟩,?_⟩
  repeat (first|exact fits_nil|refine fits_none ?_|refine fits_some ?_)
 clear HT
 intro q a W hI K1 hK
 obtain⟨hds,i,v,u,rg,hh,hiq,hT,hfine,hfit⟩:=hI
 obtain⟨f',hf'⟩:=fits_act hfit
 rw[hds]at hf'
 subst hf'
 clear hfit hds
 simp only[fillP,Nat.reduceAdd]
 have HL0:=Lib.hid (Hk.out.later hT.bel)
 have HT0:=Lib.hid hT
 have Hfine:=Lib.hid hfine
 clear hT hfine
 by_cases hlt:i<ln
 ·obtain⟨rb,ro,r,rfl,hrb,hr,hcr⟩:=HL0.out.sl.lt hlt
  have Hrow:=Lib.hid (λ(W:World)(h:PK w W (some ⟨rb,ro,none⟩) ln lc rs BA bn bc bs)=>h.rows r (List.mem_of_getElem? hr))
  obtain⟨A,n,c,xs,L,nl,cl,ls,H,nh,ch,hs⟩:=r
  have HG0:=Lib.hid (show RC W rb (ro+i*3) A n c L nl cl H nh ch from⟨hrb,by simpa using hcr 0 _ rfl,by simpa using hcr 1 _ rfl,by simpa using hcr 2 _ rfl⟩)
  clear hrb hr hcr
  obtain⟨p,hp⟩:∃p,ro+i*3=p:=⟨_,rfl⟩
  rw[hp]at HG0
  obtain⟨g0,g1,g2,g3⟩:=HG0.out.cells
  have i1:(i:Int)<(ln:Int):=by omega
  have i2:(0:Int)<=(i:Int):=by omega
  have i3:IntKind.i64.wrap ((i:Int)+1)=(i:Int)+1:=by rw[IntKind.wrap_i64];omega
  by_cases hn8:(8:Int)<(n:Int)
  case pos=>
   clear Hrow
   go_wp2_with fail
   refine(Ev.works03 _).mono ?_
   rintro e we⟨rfl,hbe⟩
   have HBE:=Lib.hid (Below.later HL0.out.bel hbe)
   clear hbe
   go_wp2
   go_ret
   exact⟨rfl,HBE.out⟩
  case neg=>
  have Hrr:=Lib.hid (λ(W:World)(h:PK w W (some ⟨rb,ro,none⟩) ln lc rs BA bn bc bs)=>refRough_any A L H n nl nh c cl ch xs ls hs W (Hrow.out W h).1 (Hrow.out W h).2.1 (Hrow.out W h).2.2)
  obtain⟨z,hz⟩:∃z,roughE n nl nh xs ls hs=z:=⟨_,rfl⟩
  rw[hz]at Hrr
  by_cases hz0:z=0
  case neg=>
   have d1:(z != 0)=true:=by simpa using hz0
   clear Hrow hz
   go_wp2_with fail
   refine(Hrr.out _ HL0.out).mono ?_
   rintro e w1⟨rfl,hb⟩
   have HL1:=Lib.hid (HL0.out.later hb)
   have HT1:=Lib.hid (HT0.out.later hb)
   have HG1:=Lib.hid (HG0.out.later hb)
   clear hb HL0 HT0 HG0 g0 g1 g2 g3
   obtain⟨g0,g1,g2,g3⟩:=HG1.out.cells
   go_wp2_with fail
   refine(Ev.works03 _).mono ?_
   rintro e we⟨rfl,hbe⟩
   have HBE:=Lib.hid (Below.later HL1.out.bel hbe)
   clear hbe
   go_wp2
   go_ret
   exact⟨rfl,HBE.out⟩
  case pos=>
  subst hz0
  have hrow0:=Hrow.out _ HL0.out
  obtain⟨e1,e2,hok⟩:=roughE_zero hrow0.1.len hrow0.2.1.len hrow0.2.2.len hz
  clear hrow0 hz
  obtain rfl:n=nl:=e1.symm
  obtain rfl:n=nh:=e2.symm
  clear e1 e2
  have Hspan:=Lib.hid (λ(W:World)(h:PK w W (some ⟨rb,ro,none⟩) ln lc rs BA bn bc bs)=>span_ok A L H n c cl ch xs ls hs W ⟨(Hrow.out W h).1,(Hrow.out W h).2.1,(Hrow.out W h).2.2⟩ hok)
  have Htrue:=Lib.hid (λ(W:World)(h:PK w W (some ⟨rb,ro,none⟩) ln lc rs BA bn bc bs)=>true_any A L H n c cl ch xs ls hs BA bn bc bs W ⟨(Hrow.out W h).1,(Hrow.out W h).2.1,(Hrow.out W h).2.2⟩ hok h.bl Hbd.out)
  have Hbest:=Lib.hid (λ(W:World)A' E' c' ce' h1 h2=>best_ok proves_any A' E' n c' ce' xs (trueL n ls hs bs) W h1 h2 (true_ok hok Hbd.out))
  have Hok:=Lib.hid hok
  clear hok
  go_wp2_with fail
  refine(Hrr.out _ HL0.out).mono ?_
  rintro e w2⟨rfl,hb⟩
  have HL1:=Lib.hid (HL0.out.later hb)
  have HT1:=Lib.hid (HT0.out.later hb)
  have HG1:=Lib.hid (HG0.out.later hb)
  clear hb HL0 HT0 HG0 g0 g1 g2 g3
  obtain⟨g0,g1,g2,g3⟩:=HG1.out.cells
  clear Hrr
  go_wp2_with fail
  refine(Hspan.out _ HL1.out).mono ?_
  rintro e w3⟨pa,pb,rfl,hb,hpa,hpam,hpb,hpbm⟩
  have HL2:=Lib.hid (HL1.out.later hb)
  have HT2:=Lib.hid (HT1.out.later hb)
  have HG2:=Lib.hid (HG1.out.later hb)
  clear hb HL1 HT1 HG1 g0 g1 g2 g3
  obtain⟨g0,g1,g2,g3⟩:=HG2.out.cells
  have hA:=prQ_ok (inner_ok Hok.out) hpa
  have hB:=prQ_ok (outer_ok Hok.out) hpb
  have hmid:=λt(ht:PrOk n t)htm=>span_true (bs:=bs) Hok.out Hbd.out hpa hpam hpb ht htm
  obtain⟨qa,hqa⟩:∃x,prQ xs (innerL n ls hs) pa=x:=⟨_,rfl⟩
  obtain⟨qb,hqb⟩:∃x,prQ xs (outerL n ls hs) pb=x:=⟨_,rfl⟩
  rw[hqa]at hA hmid ⊢
  rw[hqb]at hB hmid ⊢
  have HA:=Lib.hid (And.intro hA.1 hA.2.1)
  have HB:=Lib.hid (And.intro hB.1 hB.2.1)
  have Hmid:=Lib.hid hmid
  clear hpa hpam hpb hpbm Hspan hA hB hmid hqa hqb
  clear pa pb
  have hbel5:Below w3.heap.size w3 ((w3.alloc (.cells #[.int .i64 qa.1,.int .i64 qa.2] 59)).alloc (.cells #[.int .i64 qb.1,.int .i64 qb.2] 59)):=balloc (balloc (brefl _) _) _
  have hb0:=(Blk.new w3 59 #[.int .i64 qa.1,.int .i64 qa.2]).alloc (.cells #[.int .i64 qb.1,.int .i64 qb.2] 59)
  have hb1:=Blk.new (w3.alloc (.cells #[.int .i64 qa.1,.int .i64 qa.2] 59)) 59 #[.int .i64 qb.1,.int .i64 qb.2]
  rw[World.size_alloc]at hb1
  have Hb5:=Lib.hid hbel5
  have HX:=Lib.hid (QR.mk hb0)
  have HZ:=Lib.hid (QR.mk hb1)
  clear hbel5 hb0 hb1
  go_wp2_with fail
  obtain⟨s1,hs1⟩:∃s,w3.heap.size=s:=⟨_,rfl⟩
  have HL3:=Lib.hid (HL2.out.later (Hb5.out))
  have HT3:=Lib.hid (HT2.out.later (Hb5.out))
  have HG3:=Lib.hid (HG2.out.later (Hb5.out))
  clear HL2 HT2 HG2 g0 g1 g2 g3
  obtain⟨g0,g1,g2,g3⟩:=HG3.out.cells
  obtain⟨W5,h5⟩:∃W5,(w3.alloc (.cells #[.int .i64 qa.1,.int .i64 qa.2] 59)).alloc (.cells #[.int .i64 qb.1,.int .i64 qb.2] 59)=W5:=⟨_,rfl⟩
  rw[h5]at HL3 HT3 HG3 HX HZ g0 g1 g2 g3 ⊢
  rw[hs1]at HX HZ ⊢
  clear Hb5 h5 hs1
  have HX3:=HX
  have HZ3:=HZ
  clear HX HZ
  obtain⟨d0,d1,d2⟩:=HX3.out.cells
  obtain⟨e0,e1,e2⟩:=HZ3.out.cells
  refine(Htrue.out _ HL3.out).mono ?_
  rintro e y5⟨A',c',E',ce',rfl,hb,hsa,hse⟩
  have HL4:=Lib.hid (HL3.out.later (hb))
  have HT4:=Lib.hid (HT3.out.later (hb))
  have HG4:=Lib.hid (HG3.out.later (hb))
  have HX4:=Lib.hid (HX3.out.later (hb))
  have HZ4:=Lib.hid (HZ3.out.later (hb))
  clear HL3 HT3 HG3 HX3 HZ3 g0 g1 g2 g3 d0 d1 d2 e0 e1 e2
  obtain⟨g0,g1,g2,g3⟩:=HG4.out.cells
  obtain⟨d0,d1,d2⟩:=HX4.out.cells
  obtain⟨e0,e1,e2⟩:=HZ4.out.cells
  clear hb g0 g1 g2 g3 Htrue
  go_wp2_with fail
  refine(Hbest.out _ A' E' c' ce' hsa hse).mono ?_
  rintro e y6⟨pt,rfl,hb,hpt,hptm⟩
  have hC:=prQ_ok (true_ok Hok.out Hbd.out) hpt
  have hm:=Hmid.out pt hpt hptm
  obtain⟨qc,hqc⟩:∃x,prQ xs (trueL n ls hs bs) pt=x:=⟨_,rfl⟩
  rw[hqc]at hC hm ⊢
  have HC:=Lib.hid (And.intro hC.1 hC.2.1)
  have Hm:=Lib.hid hm
  have HL5:=Lib.hid (HL4.out.later (hb))
  have HT5:=Lib.hid (HT4.out.later (hb))
  have HX5:=Lib.hid (HX4.out.later (hb))
  have HZ5:=Lib.hid (HZ4.out.later (hb))
  clear HL4 HT4 HX4 HZ4 d0 d1 d2 e0 e1 e2
  obtain⟨d0,d1,d2⟩:=HX5.out.cells
  obtain⟨e0,e1,e2⟩:=HZ5.out.cells
  clear hb hsa hse Hbest hpt hptm hC hm hqc Hmid
  have hb0:=Blk.new y6 59 #[.int .i64 qc.1,.int .i64 qc.2]
  have hbel7:Below y6.heap.size y6 (y6.alloc (.cells #[.int .i64 qc.1,.int .i64 qc.2] 59)):=balloc (brefl _) _
  have Hb7:=Lib.hid hbel7
  have HM:=Lib.hid (QR.mk hb0)
  clear hbel7 hb0
  go_wp2_with fail
  obtain⟨s3,hs3⟩:∃s,y6.heap.size=s:=⟨_,rfl⟩
  have HL6:=Lib.hid (HL5.out.later (Hb7.out))
  have HT6:=Lib.hid (HT5.out.later (Hb7.out))
  have HX6:=Lib.hid (HX5.out.later (Hb7.out))
  have HZ6:=Lib.hid (HZ5.out.later (Hb7.out))
  clear HL5 HT5 HX5 HZ5 d0 d1 d2 e0 e1 e2
  obtain⟨d0,d1,d2⟩:=HX6.out.cells
  obtain⟨e0,e1,e2⟩:=HZ6.out.cells
  obtain⟨W7,h7⟩:∃W7,y6.alloc (.cells #[.int .i64 qc.1,.int .i64 qc.2] 59)=W7:=⟨_,rfl⟩
  rw[h7]at HL6 HT6 HX6 HZ6 HM d0 d1 d2 e0 e1 e2 ⊢
  rw[hs3]at HM ⊢
  clear Hb7 h7 hs3
  have HM6:=HM
  clear HM
  obtain⟨m0,m1,m2⟩:=HM6.out.cells
  have Hwa:=Lib.hid (λW=>whole_any qa HA.out.2 HA.out.1 W)
  have Hwb:=Lib.hid (λW=>whole_any qb HB.out.2 HB.out.1 W)
  have Hwc:=Lib.hid (λW=>whole_any qc HC.out.2 HC.out.1 W)
  have Hend:=Lib.hid (λo1 o2=>whole_mid HA.out.2 HC.out.2 HB.out.2 Hm.out.1 Hm.out.2 o1 o2)
  obtain⟨oa,hoa⟩:∃x,wOk qa=x:=⟨_,rfl⟩
  obtain⟨ob,hob⟩:∃x,wOk qb=x:=⟨_,rfl⟩
  obtain⟨oc,hoc⟩:∃x,wOk qc=x:=⟨_,rfl⟩
  obtain⟨va,hva⟩:∃x,wV qa=x:=⟨_,rfl⟩
  obtain⟨vb,hvb⟩:∃x,wV qb=x:=⟨_,rfl⟩
  obtain⟨vc,hvc⟩:∃x,wV qc=x:=⟨_,rfl⟩
  rw[hoa,hva]at Hwa
  rw[hob,hvb]at Hwb
  rw[hoc,hvc]at Hwc
  rw[hoa,hob,hoc,hva,hvb,hvc]at Hend
  clear hoa hob hoc hva hvb hvc HA HB HC Hm
  refine(Hwa.out _).mono ?_
  rintro e y8⟨rfl,hb⟩
  have HL7:=Lib.hid (HL6.out.later (hb))
  have HT7:=Lib.hid (HT6.out.later (hb))
  have HX7:=Lib.hid (HX6.out.later (hb))
  have HZ7:=Lib.hid (HZ6.out.later (hb))
  have HM7:=Lib.hid (HM6.out.later (hb))
  clear HL6 HT6 HX6 HZ6 HM6 d0 d1 d2 e0 e1 e2 m0 m1 m2
  obtain⟨d0,d1,d2⟩:=HX7.out.cells
  obtain⟨e0,e1,e2⟩:=HZ7.out.cells
  obtain⟨m0,m1,m2⟩:=HM7.out.cells
  clear hb Hwa
  go_wp2_with fail
  refine(Hwb.out _).mono ?_
  rintro e w4⟨rfl,hb⟩
  have HL8:=Lib.hid (HL7.out.later hb)
  have HT8:=Lib.hid (HT7.out.later hb)
  have HX8:=Lib.hid (HX7.out.later hb)
  have HZ8:=Lib.hid (HZ7.out.later hb)
  have HM8:=Lib.hid (HM7.out.later hb)
  clear hb HL7 HT7 HX7 HZ7 HM7 d0 d1 d2 e0 e1 e2 m0 m1 m2
  obtain⟨d0,d1,d2⟩:=HX8.out.cells
  obtain⟨e0,e1,e2⟩:=HZ8.out.cells
  obtain⟨m0,m1,m2⟩:=HM8.out.cells
  go_wp2_with fail
  refine(Hwc.out _).mono ?_
  rintro e w5⟨rfl,hb⟩
  have HL9:=Lib.hid (HL8.out.later hb)
  have HT9:=Lib.hid (HT8.out.later hb)
  have HX9:=Lib.hid (HX8.out.later hb)
  have HZ9:=Lib.hid (HZ8.out.later hb)
  have HM9:=Lib.hid (HM8.out.later hb)
  clear hb HL8 HT8 HX8 HZ8 HM8 d0 d1 d2 e0 e1 e2 m0 m1 m2
  obtain⟨d0,d1,d2⟩:=HX9.out.cells
  obtain⟨e0,e1,e2⟩:=HZ9.out.cells
  obtain⟨m0,m1,m2⟩:=HM9.out.cells
  clear Hwb Hwc
  cases oa with
  |false=>
   clear Hend
   go_wp2_with fail
   refine(Ev.works03 _).mono ?_
   rintro e we⟨rfl,hbe⟩
   have HBE:=Lib.hid (Below.later HL9.out.bel hbe)
   clear hbe
   go_wp2
   go_ret
   exact⟨rfl,HBE.out⟩
  |true=>
  cases ob with
  |false=>
   clear Hend
   go_wp2_with fail
   refine(Ev.works03 _).mono ?_
   rintro e we⟨rfl,hbe⟩
   have HBE:=Lib.hid (Below.later HL9.out.bel hbe)
   clear hbe
   go_wp2
   go_ret
   exact⟨rfl,HBE.out⟩
  |true=>
  obtain⟨rfl,v1,v2,v3,v4⟩:=Hend.out rfl rfl
  have Hv:=Lib.hid (And.intro v1 (And.intro v2 (And.intro v3 v4)))
  have j1:decide (vb<va)=false:=decide_eq_false (by omega)
  have j2:decide (vc<va)=false:=decide_eq_false (by omega)
  have j3:decide (vb<vc)=false:=decide_eq_false (by omega)
  clear v1 v2 v3 v4 Hend d0 d1 d2 e0 e1 e2 m0 m1 m2 HX9 HZ9 HM9
  obtain⟨i0,hi0,hz0,hz1,hz2⟩:=info_parts info_rg
  obtain⟨l0,hl0,hy0,hy1,hy2⟩:=info_parts info_long
  have b1:=HT9.out.bp.cell 1
  have b2:=HT9.out.bp.lt
  have HNw:=Lib.hid (World.news_of_block (cs:=#[.int .i64 va,.int .i64 vb]) (t:=36) (fr:=(0,0)) (heap_alloc_new w5 (.cells #[.int .i64 va,.int .i64 vb] 36)))
  have HPa:=Lib.hid (HT9.out.later (balloc (brefl w5) (.cells #[.int .i64 va,.int .i64 vb] 36)))
  have HVs:=Lib.hid (show w.heap.size<=w5.heap.size from HT9.out.bel.size)
  have Hrl:=Lib.hid (show rg.length<=4/\hh.length<=4 by have:=Hfine.out.1;have:=Hfine.out.2.1;omega)
  clear HT9 HL9
  go_wp2_with (at_builtin;first
   |(refine wpList_append_own _ rfl _ _ 31 rfl w.heap.size 36 i0 (.agg #[.int .i64 0,.int .i64 0]) 2 16 und_rgs hi0 hz0 hz1 hz2 rfl (by decide) v rg.length _ rfl HPa.out.own ⟨w5.heap.size,0,none⟩ 1 1 [.int .i64 va,.int .i64 vb] rfl rfl HNw.out (by simp[Value.oneCell']) (by have:=Hrl.out;simp only[maxLen];omega) (by have:=Hrl.out;omega) (by have:=HVs.out;simp;omega) ?_;intro v' W3 hown' hgr _;obtain⟨g3,c3,rfl⟩:=own_succ hown';have HP3:=Lib.hid (HPa.out.logs (x:=⟨va,vb⟩) hgr hown');have HP4:=Lib.hid (HP3.out.later (balloc (brefl W3) (.cells #[.int .i64 vc] 2)));have HN2:=Lib.hid (World.news_of_block (cs:=#[.int .i64 vc]) (t:=2) (fr:=(0,0)) (heap_alloc_new W3 (.cells #[.int .i64 vc] 2)));have HV2:=Lib.hid (show w.heap.size<=W3.heap.size from HP3.out.bel.size);clear hown' hgr HP3)
   |(refine wpList_append_own _ rfl _ _ 43 rfl w.heap.size 2 l0 (.int .i64 0) 1 8 und_longs hl0 hy0 hy1 hy2 rfl (by decide) u hh.length _ rfl HP4.out.ow ⟨W3.heap.size,0,none⟩ 1 1 [.int .i64 vc] rfl rfl HN2.out (by simp[Value.oneCell']) (by have:=Hrl.out;simp only[maxLen];omega) (by have:=Hrl.out;omega) (by have:=HV2.out;simp;omega) ?_;intro u' W4 hown' hgr _;have HP5:=Lib.hid (HP4.out.hours (y:=vc) hgr hown');have n1:=HP5.out.bp.cell 1;have n2:=HP5.out.bp.frozen 1;have n3:=HP5.out.bp.lt;clear hown' hgr))
  have HP6:=Lib.hid HP5.out.store
  obtain⟨v1,v2,v3,v4⟩:=Hv.out
  have Hf2:=Lib.hid (Hfine.out.snoc v3 v1 v2 v4)
  refine hK _ _ (q-1) (by omega) ⟨rfl,i+1,_,u',_,_,by omega,HP6.out,Hf2.out,?_⟩
  repeat (first|exact fits_nil|refine fits_none ?_|refine fits_some ?_)
 ·obtain rfl:i=ln:=by omega
  obtain⟨hr,he,hy,hf,hle⟩:=fine_end (L:=Ld) Hfine.out (by omega) HLd.out
  have hT:=HT0.out
  obtain⟨A,c,rfl,hsl⟩:=own_slG (k:=2) (enc:=encR) (λ_=>rfl) hT.own rfl
  obtain⟨B,d,rfl,hsh⟩:=own_slI hT.ow rfl
  have Hch:=Lib.hid (λW h1 h2=>checkHours_any (Ld:Int) A rg.length c rg B hh.length d hh W h1 h2)
  have Hfe:=Lib.hid (λW h1=>fewest_any (Ld:Int) A rg.length c rg W h1)
  have Hrf:=Lib.hid (λW h1=>refFewestOf_any Ld A rg.length c rg W h1 hr HLd.out)
  rw[he]at Hch
  rw[hf,hy]at Hfe
  obtain⟨la,hla⟩:∃x,Go.Proofs.YtednconodjeniaaGreat.LA rg Ld 101=x:=⟨_,rfl⟩
  obtain⟨hv,hhv⟩:∃x,hoursV (Ld:Int) rg hh=x:=⟨_,rfl⟩
  rw[hla]at Hfe Hrf hle
  rw[hhv]at Hch hle
  have HX0:=Lib.hid (show YT4 W w.heap.size Ld A rg.length c rg from⟨hT.bp,hsl⟩)
  have HH0:=Lib.hid hsh
  clear hT hsl hsh hr he hy hf hla hhv hK hlt hiq Hfine Hbd HT0
  obtain⟨n,hn⟩:∃n,rg.length=n:=⟨_,rfl⟩
  obtain⟨m,hm⟩:∃n,hh.length=n:=⟨_,rfl⟩
  rw[hn]at HX0 Hch Hfe Hrf
  rw[hm]at HH0 Hch ⊢
  clear hn hm
  obtain⟨d0,d1,d2⟩:=HX0.out.cells
  have j1:decide (la<=hv)=true:=decide_eq_true hle
  clear hle
  go_wp2_with fail
  refine(Hch.out _ HX0.out.sl HH0.out).mono ?_
  rintro e w6⟨rfl,hb⟩
  have HL1:=Lib.hid (HL0.out.later hb)
  have HX1:=Lib.hid (HX0.out.later hb)
  have HH1:=Lib.hid (HH0.out.later hb)
  clear hb HL0 HX0 HH0 d0 d1 d2
  obtain⟨d0,d1,d2⟩:=HX1.out.cells
  go_wp2_with fail
  refine(Hfe.out _ HX1.out.sl).mono ?_
  rintro e w7⟨rfl,hb⟩
  have HL2:=Lib.hid (HL1.out.later hb)
  have HX2:=Lib.hid (HX1.out.later hb)
  have HH2:=Lib.hid (HH1.out.later hb)
  clear hb HL1 HX1 HH1 d0 d1 d2
  obtain⟨d0,d1,d2⟩:=HX2.out.cells
  go_wp2_with fail
  refine(Hrf.out _ HX2.out.sl).mono ?_
  rintro e w8⟨rfl,hb⟩
  have HL3:=Lib.hid (HL2.out.later hb)
  have HX3:=Lib.hid (HX2.out.later hb)
  have HH3:=Lib.hid (HH2.out.later hb)
  clear hb HL2 HX2 HH2 d0 d1 d2
  obtain⟨d0,d1,d2⟩:=HX3.out.cells
  go_wp2_with fail
  refine(Ev.works03 _).mono ?_
  rintro e we⟨rfl,hbe⟩
  have HBE:=Lib.hid (Below.later HL3.out.bel hbe)
  clear hbe
  go_wp2
  go_ret
  exact⟨rfl,HBE.out⟩
end Go.Proofs.YtednconodjeniaaGreat.P
