/- Seam: the seams of all layers, walked. -/
import Derived.Test.YtifehdoghfnhoaaGreatDoorZSTwo
import Derived.Test.YtifehdoghfnhoaaGreatDoorZApp
import Derived.Test.YtifehdoghfnhoaaGreatDoorZSApiG
import Derived.Test.YtifehdoghfnhoaaGreatDoorZSThree
namespace Go.Proofs.YtifehdoghfnhoaaGreatDoor.Sm
open Go.RowKit Go.Shelf
set_option maxHeartbeats 400000 in
theorem withinC(B1 B2:Nat)(lo hi x:Int)(w:World)(h1:w.cell? ⟨B1,0,none⟩=some (.int .i64 lo))(h2:w.cell? ⟨B2,0,none⟩=some (.int .i64 hi)):
 Calls Tryz.prog 286 #[.int .i64 x,.pointer (some ⟨B1,0,none⟩),.pointer (some ⟨B2,0,none⟩)] w λe w'=>e=.returned (.bool (outR lo hi x))/\Below w.heap.size w w':=by
 have H:=Lib.hid (outR_eq lo hi x)
 by_cases c1:x<lo
 ·go_enter Tryz.func286,Tryz.ntmps286
  go_wp2
  go_ret
  exact⟨rtB (by rw[H.out];simp[outB,c1]),Below.refl _ _⟩
 ·by_cases c2:hi<x
  ·go_enter Tryz.func286,Tryz.ntmps286
   go_wp2
   go_ret
   exact⟨rtB (by rw[H.out];simp[outB,c2]),Below.refl _ _⟩
  ·go_enter Tryz.func286,Tryz.ntmps286
   go_wp2
   go_ret
   exact⟨rtB (by rw[H.out];simp[outB,c1,c2]),Below.refl _ _⟩
set_option maxHeartbeats 400000 in
theorem within_any(lo hi:Int)(A:Option Addr)(n c:Nat)(xs:List Int)(w:World)(hs:Sl 1 encI w w.heap.size A n c xs):
 Calls Tryz.prog 198 #[.int .i64 lo,.int .i64 hi,.slice A n c] w λe w'=>e=.returned (.bool (!(xs.any (outR lo hi))))/\Below w.heap.size w w':=by
 have Hs:=Lib.hid hs
 clear hs
 go_enter Tryz.func198,Tryz.ntmps198
 go_wp2_with (go_at_call 206;refine(containsL 286 #[.pointer (some ⟨w.heap.size,0,none⟩),.pointer (some ⟨w.heap.size+1,0,none⟩)] (enters_of Tryz.func286 (by kernel_rfl) rfl) (outR lo hi) A n c xs _ (Hs.out.later ?_) ?_).mono ?_)
 ·exact((Below.refl _ _).alloc (Nat.le_refl _) _).alloc (by simp) _
 ·intro x W _ hb
  exact withinC _ _ lo hi x W ((hb.cell (p:=⟨w.heap.size,0,none⟩) (by simp;omega)).trans (by go_simp)) ((hb.cell (p:=⟨w.heap.size+1,0,none⟩) (by simp)).trans (by go_simp))
 ·rintro e w1⟨rfl,hb1⟩
  have Hb1:=Lib.hid hb1
  clear hb1
  go_wp2
  go_ret
  exact⟨rfl,Below.later (((Below.refl _ _).alloc (Nat.le_refl _) _).alloc (by simp) _) Hb1.out⟩
theorem within_one(lo hi x:Int)(b:Nat)(w:World)(hb:b<w.heap.size)(h:w.cell? ⟨b,0,none⟩=some (.int .i64 x)):
 Calls Tryz.prog 198 #[.int .i64 lo,.int .i64 hi,.slice (some ⟨b,0,none⟩) 1 1] w λe w'=>e=.returned (.bool (inR lo hi x))/\Below w.heap.size w w':=
 (within_any lo hi _ _ _ [x] w (Sl.one hb h)).mono λ_ _⟨he,hw⟩=>⟨by rw[he,inR_any],hw⟩
structure Lw where
 A:Option Addr
 n:Nat
 c:Nat
 xs:List Int
def encLw(r:Lw):List Value:=[.slice r.A r.n r.c]
structure PanIn(W:World)(LA:Option Addr)(ln lc:Nat)(ls:List Lw):Prop where
 sl:Sl 1 encLw W W.heap.size LA ln lc ls
 rows:∀r∈ls,Sl 1 encI W W.heap.size r.A r.n r.c r.xs
theorem PanIn.later{W W':World}{LA:Option Addr}{ln lc:Nat}{ls:List Lw}(h:PanIn W LA ln lc ls)(hb:Below W.heap.size W W'):PanIn W' LA ln lc ls:=⟨h.sl.later hb,λr hr=>(h.rows r hr).later hb⟩
theorem ltLw{W:World}{B:Nat}{A:Option Addr}{n c:Nat}{xs:List Lw}(h:Sl 1 encLw W B A n c xs){i:Nat}(hi:i<n):∃b o r,A=some ⟨b,o,none⟩/\b<B/\xs[i]? =some r/\W.cell? ⟨b,o+i,none⟩=some (.slice r.A r.n r.c):=by
 obtain⟨b,o,r,hA,hB,hx,hc⟩:=h.lt hi
 exact⟨b,o,r,hA,hB,hx,by simpa using hc 0 _ rfl⟩
structure PanOk(ls:List Lw):Prop where
 l2:2<=ls.length
 l4:ls.length<=4
 n1:∀r∈ls,1<=r.xs.length/\r.xs.length<=5
 x1:∀r∈ls,∀x∈r.xs,1<=x/\x<=100
 sum:∀r∈ls,∀r'∈ls,r.xs.sum=r'.xs.sum
set_option maxRecDepth 100000 in
set_option maxHeartbeats 1000000 in
theorem sum_any(A:Option Addr)(n c:Nat)(xs:List Int)(w:World)(hs:Sl 1 encI w w.heap.size A n c xs)(hn:n<=1000)(hx:∀x∈xs,0<=x/\x<=1000):
 Calls Tryz.prog 185 #[.slice A n c] w λe w'=>e=.returned (.int .i64 xs.sum)/\Below w.heap.size w w':=by
 have hl:=hs.len
 have hsum:∀j,j<=xs.length->0<=(xs.take j).sum/\(xs.take j).sum<=1000*j:=by
  intro j
  induction j with
  |zero=>intro _;simp
  |succ j ih=>
   intro hj
   have h1:=ih (by omega)
   have hin:j<xs.length:=by omega
   have h2:=hx _ (List.getElem_mem hin)
   rw[List.take_succ_eq_append_getElem hin,List.sum_append]
   simp
   omega
 have Hs:=Lib.hid hs
 have Hx:=Lib.hid hx
 have Hsum:=Lib.hid hsum
 have Hl:=Lib.hid hl
 clear hs hx hsum hl
 go_enter Tryz.func185,Tryz.ntmps185
 go_wp2_with fail
 refine lpn (λq a W=>a.defers=[]/\∃i:Nat,i+q=n/\Below w.heap.size w W/\Fits (none::none::none::some (.int .i64 (xs.take i).sum)::none::none::some (.slice A n c)::some (.int .i64 (n:Nat))::some (.int .i64 (i:Nat))::none::none::none::none::none::none::none::none::[]) a.tmps.toList) n ?_ ?_
 ·refine⟨rfl,0,by omega,brefl w,?_⟩
  repeat (first|exact ftL|refine ftN ?_|refine ftS ?_)
 intro q a W hI K1 hK
 obtain⟨hds,i,hiq,hB,hfit⟩:=hI
 obtain⟨f',hf'⟩:=ftA hfit
 rw[hds]at hf'
 subst hf'
 clear hfit hds
 simp only[fillP,Nat.reduceAdd]
 have HB:=Lib.hid hB
 by_cases hlt:i<n
 ·obtain⟨b,o,x,rfl,hbb,hx,x0⟩:=(Hs.out.later hB).ltI hlt
  have h1:=Hsum.out i (by have:=Hl.out;omega)
  have h2:=Hx.out x (List.mem_of_getElem? hx)
  obtain⟨s,hs⟩:∃s,(xs.take i).sum=s:=⟨_,rfl⟩
  obtain⟨s',hs'⟩:∃s',(xs.take (i+1)).sum=s':=⟨_,rfl⟩
  have hst:s+x=s':=by
   obtain⟨hin,hxe⟩:=List.getElem?_eq_some_iff.1 hx
   rw[<-hs,<-hs',List.take_succ_eq_append_getElem hin,List.sum_append,hxe]
   simp
  rw[hs]at h1 ⊢
  have i1:(i:Int)<(n:Int):=by omega
  have i2:(0:Int)<=(i:Int):=by omega
  have i3:IntKind.i64.wrap ((i:Int)+1)=(i:Int)+1:=by rw[IntKind.wrap_i64];omega
  have i4:IntKind.i64.wrap (s+x)=s':=by rw[IntKind.wrap_i64];omega
  have Hs':=Lib.hid hs'
  clear h1 h2 hs hst hx hs' hB
  go_wp2
  rw[<-Hs'.out]
  refine hK _ _ (q-1) (by omega) ⟨rfl,i+1,by omega,HB.out,?_⟩
  repeat (first|exact ftL|refine ftN ?_|refine ftS ?_)
 ·obtain rfl:i=n:=by omega
  have H3:=Lib.hid (show(xs.take i).sum=xs.sum by rw[<-Hl.out,List.take_length])
  obtain⟨s,hs⟩:∃s,(xs.take i).sum=s:=⟨_,rfl⟩
  rw[hs]at H3 ⊢
  clear hK hlt hiq hB hs
  go_wp2
  go_ret
  exact⟨ret_int H3.out,HB.out⟩
set_option maxHeartbeats 400000 in
theorem indexW(g:Nat)(lb:Array Value)(eg:∀args w,(callFunc g args).run Tryz.prog w=.ok (.enter g args) w)(p:Lw->Bool)(A:Option Addr)(n c:Nat)(xs:List Lw)(w:World)
 (hs:Sl 1 encLw w w.heap.size A n c xs)
 (hp:∀x W,x∈xs->Below w.heap.size w W->Calls Tryz.prog g (#[.slice x.A x.n x.c]++lb) W λe W'=>e=.returned (.bool (p x))/\Below W.heap.size W W'):
 Calls Tryz.prog 351 #[.slice A n c,.func (.func g) #[] lb] w λe w'=>e=.returned (.int .i64 (idxB p xs 0))/\Below w.heap.size w w':=by
 have hl:=hs.len
 have hcap:=hs.cap
 have hbig:=hs.big
 have Hp:=Lib.hid hp
 clear hp
 go_enter Tryz.func351,Tryz.ntmps351
 go_wp2
 go_loopw [8] (λi wr=>∃k:Nat,k<=n/\i=.int .i64 k/\(∀j x,j<k->xs[j]? =some x->p x=false)/\Below w.heap.size w wr) (λi _=>n-(intOf i).toNat)
 case atStart=>exact⟨0,by omega,rfl,by omega,Below.refl _ _⟩
 case round=>
  obtain⟨k,hk,rfl,hno,hb⟩:=hrel
  by_cases hlt:k<n
  ·obtain⟨b,o,x,rfl,hB,hx,hc0⟩:=ltLw (hs.below hb) hlt
   have Hno:=Lib.hid hno
   have Hx:=Lib.hid hx
   have Hb:=Lib.hid hb
   clear hno hx hb
   go_wp2_with (go_at_fn g;refine(Hp.out x _ (List.mem_of_getElem? Hx.out) Hb.out).mono ?_;rintro e w1 ⟨rfl,hb1⟩)
   ·have hpx:p x=true:=by assumption
    go_ret
    exact⟨ret_int (idxB_at Hno.out Hx.out hpx).symm,Below.later Hb.out hb1⟩
   ·have hpx:p x=false:=by assumption
    go_roundw
    case rel=>exact⟨k+1,by omega,by go_num,no_succ Hno.out Hx.out hpx,Below.later Hb.out hb1⟩
    case measure=>simp[intOf];omega
  ·obtain rfl:k=n:=by omega
   have Hno:=Lib.hid hno
   have Hb:=Lib.hid hb
   clear hno hb
   go_wp2
   go_ret
   exact⟨ret_int (idxB_no (by rw[hl];exact Hno.out)).symm,Hb.out⟩
set_option maxHeartbeats 400000 in
theorem containsW(g:Nat)(lb:Array Value)(eg:∀args w,(callFunc g args).run Tryz.prog w=.ok (.enter g args) w)(p:Lw->Bool)(A:Option Addr)(n c:Nat)(xs:List Lw)(w:World)
 (hs:Sl 1 encLw w w.heap.size A n c xs)
 (hp:∀x W,x∈xs->Below w.heap.size w W->Calls Tryz.prog g (#[.slice x.A x.n x.c]++lb) W λe W'=>e=.returned (.bool (p x))/\Below W.heap.size W W'):
 Calls Tryz.prog 284 #[.slice A n c,.func (.func g) #[] lb] w λe w'=>e=.returned (.bool (xs.any p))/\Below w.heap.size w w':=by
 have H:=Lib.hid (indexW g lb eg p A n c xs w hs hp)
 clear hs hp
 go_enter Tryz.func284,Tryz.ntmps284
 go_wp2_with (go_at_call 351;refine H.out.mono ?_;rintro e w1 ⟨rfl,hb1⟩)
 go_ret
 exact⟨rtB (idxB_ge p xs 0),hb1⟩
set_option maxHeartbeats 1000000 in
theorem size_ok(r:Lw)(w:World)(h1:1<=r.n/\r.n<=5):Calls Tryz.prog 282 #[.slice r.A r.n r.c] w λe w'=>e=.returned (.bool false)/\Below w.heap.size w w':=by
 have hb:=balloc (brefl w) (.cells #[.int .i64 (r.n:Nat)] 2)
 have Hb:=Lib.hid hb
 have Hc:=Lib.hid (within_one 1 5 (r.n:Int) w.heap.size _ (by simp) (show(w.alloc (.cells #[.int .i64 (r.n:Nat)] 2)).cell? ⟨w.heap.size,0,none⟩=some (.int .i64 (r.n:Int))from(Blk.new w 2 #[.int .i64 (r.n:Nat)]).cell 0))
 have hi:inR 1 5 (r.n:Int)=true:=(inR_iff _ _ _).2 (by omega)
 rw[hi]at Hc
 clear hb hi h1
 go_enter Tryz.func282,Tryz.ntmps282
 go_wp2_with fail
 refine Hc.out.mono ?_
 rintro e w1⟨rfl,hb1⟩
 have HB:=Lib.hid (Below.later Hb.out hb1)
 clear hb1
 go_wp2
 go_ret
 exact⟨rfl,HB.out⟩
set_option maxHeartbeats 1000000 in
theorem stray_ok(r:Lw)(w:World)(hs:Sl 1 encI w w.heap.size r.A r.n r.c r.xs)(h1:∀x∈r.xs,1<=x/\x<=100):Calls Tryz.prog 283 #[.slice r.A r.n r.c] w λe w'=>e=.returned (.bool false)/\Below w.heap.size w w':=by
 have Hc:=Lib.hid (within_any 1 100 r.A r.n r.c r.xs w hs)
 have hi:r.xs.any (outR 1 100)=false:=by
  rw[List.any_eq_false]
  intro x hx
  have:=h1 x hx
  rw[outR_eq]
  simp[outB]
  omega
 rw[hi]at Hc
 clear hs hi h1
 go_enter Tryz.func283,Tryz.ntmps283
 go_wp2_with fail
 refine Hc.out.mono ?_
 rintro e w1⟨rfl,hb1⟩
 have HB:=Lib.hid hb1
 clear hb1
 go_wp2
 go_ret
 exact⟨rfl,HB.out⟩
end Go.Proofs.YtifehdoghfnhoaaGreatDoor.Sm
namespace Go.Proofs.YtifehdoghfnhoaaGreatDoor.Sm
open Go.RowKit Go.Shelf
set_option maxRecDepth 100000 in
set_option maxHeartbeats 2000000 in
theorem equal_ok(r r0:Lw)(B:Nat)(LA:Option Addr)(ln lc:Nat)(ls:List Lw)(w:World)(hp:PanIn w LA ln lc ls)(hB:B<w.heap.size)(hc:w.cell? ⟨B,0,none⟩=some (.slice LA ln lc))(hr:r∈ls)(hr0:ls[0]? =some r0) (hok:PanOk ls):
 Calls Tryz.prog 285 #[.slice r.A r.n r.c,.pointer (some ⟨B,0,none⟩)] w λe w'=>e=.returned (.bool false)/\Below w.heap.size w w':=by
 have hl:=hp.sl.len
 have h2:=hok.l2
 obtain⟨b,o,r',rfl,hb,hx,x0⟩:=ltLw hp.sl (show 0<ln by omega)
 rw[hr0]at hx
 cases hx
 rw[Nat.add_zero]at x0
 have hlen:∀r∈ls,r.n<=1000:=λr hr=>by have:=(hp.rows r hr).len;have:=(hok.n1 r hr).2;omega
 have hbd:∀r∈ls,∀x∈r.xs,0<=x/\x<=1000:=λr hr x hx=>by have:=hok.x1 r hr x hx;omega
 have hm0:=List.mem_of_getElem? hr0
 have d4:0<ln:=by omega
 have H1:=Lib.hid (λV(h:Below w.heap.size w V)=>sum_any r.A r.n r.c r.xs V ((hp.rows r hr).later h) (hlen r hr) (hbd r hr))
 have H2:=Lib.hid (λV(h:Below w.heap.size w V)=>sum_any r0.A r0.n r0.c r0.xs V ((hp.rows r0 hm0).later h) (hlen r0 hm0) (hbd r0 hm0))
 obtain⟨s,hs⟩:∃s,r0.xs.sum=s:=⟨_,rfl⟩
 have hs1:r.xs.sum=s:=by rw[hok.sum r hr r0 hm0,hs]
 rw[hs1]at H1
 rw[hs]at H2
 clear hs hs1 hlen hbd hl h2 hp hok hr hr0
 go_enter Tryz.func285,Tryz.ntmps285
 go_wp2_with fail
 refine dag 9 (by kernel_rfl) (by kernel_rfl) (.is ?_::.is ?_::.is ?_::.is ?_::.is ?_::.is ?_::.is ?_::.is ?_::.is ?_::[]) rfl ?sta ?oba
 case sta=>simp[Spec.ok]
 case oba=>
 intro env V hG
 have hWV:Below w.heap.size w V:=Below.later (brefl w) hG
 have d0:V.cell? ⟨B,0,none⟩=some (.slice (some ⟨b,o,none⟩) ln lc):=(hWV.cell (p:=⟨B,0,none⟩) hB).trans hc
 have d1:B<V.heap.size:=Nat.lt_of_lt_of_le hB hWV.size
 have d2:V.cell? ⟨b,o,none⟩=some (.slice r0.A r0.n r0.c):=(hWV.cell (p:=⟨b,o,none⟩) hb).trans x0
 have d3:b<V.heap.size:=Nat.lt_of_lt_of_le hb hWV.size
 have HB:=Lib.hid hWV
 clear hWV hG
 (refine obI ?_ ?_;unfold dsA;go_simp;(try go_bits);(first|(refine⟨brefl _,?_⟩;rfl)|rfl);intro K hK;go_simp;refine hK _ ?_;clear hK K)
 refine obI ?_ ?_
 ·unfold dsA
  go_simp
  refine(H1.out V HB.out).mono ?_
  rintro e w1⟨rfl,hb1⟩
  (refine⟨?_,hb1⟩;rfl)
 intro K hK
 go_simp
 refine hK _ ?_
 clear hK K
 iterate 4 (refine obI ?_ ?_;unfold dsA;go_simp;(try go_bits);(first|(refine⟨brefl _,?_⟩;rfl)|rfl);intro K hK;go_simp;refine hK _ ?_;clear hK K)
 refine obI ?_ ?_
 ·unfold dsA
  go_simp
  refine(H2.out V HB.out).mono ?_
  rintro e w1⟨rfl,hb1⟩
  (refine⟨?_,hb1⟩;rfl)
 intro K hK
 go_simp
 refine hK _ ?_
 clear hK K
 iterate 2 (refine obI ?_ ?_;unfold dsA;go_simp;(try go_bits);(first|(refine⟨brefl _,?_⟩;rfl)|rfl);intro K hK;go_simp;refine hK _ ?_;clear hK K)
 refine obN (λhx=>?_)
 clear hx d0 d1 d2 d3 d4
 go_wp2
 go_ret
 exact⟨rfl,HB.out⟩
structure PB(w W:World)(LA:Option Addr)(ln lc:Nat)(ls:List Lw):Prop where
 bel:Below w.heap.size w W
 b0:Blk W w.heap.size 55 #[.slice LA ln lc]
 pan:PanIn W LA ln lc ls
theorem PB.later{w W W':World}{LA:Option Addr}{ln lc:Nat}{ls:List Lw}(h:PB w W LA ln lc ls)(hb:Below W.heap.size W W'):PB w W' LA ln lc ls:=⟨Below.later h.bel hb,h.b0.later hb,h.pan.later hb⟩
theorem PB.cells{w W:World}{LA:Option Addr}{ln lc:Nat}{ls:List Lw}(h:PB w W LA ln lc ls):W.cell? ⟨w.heap.size,0,none⟩=some (.slice LA ln lc)/\w.heap.size<W.heap.size/\True:=⟨h.b0.cell 0,h.b0.lt,trivial⟩
theorem PB.start{w:World}{LA:Option Addr}{ln lc:Nat}{ls:List Lw}(h:PanIn w LA ln lc ls):PB w (w.alloc (.cells #[.slice LA ln lc] 55)) LA ln lc ls:=⟨balloc (brefl w) _,Blk.new w _ _,h.later (balloc (brefl w) _)⟩
set_option maxRecDepth 100000 in
set_option maxHeartbeats 4000000 in
theorem checkPanel_ok(LA:Option Addr)(ln lc:Nat)(ls:List Lw)(w:World)(hp:PanIn w LA ln lc ls)(hok:PanOk ls):
 Calls Tryz.prog 197 #[.agg #[.slice LA ln lc]] w λe w'=>e=.returned (.int .i64 0)/\Below w.heap.size w w':=by
 have hl:=hp.sl.len
 have h2:=hok.l2
 have h4:=hok.l4
 have HK0:=Lib.hid (PB.start hp)
 have hin:inR 2 4 (ln:Int)=true:=(inR_iff _ _ _).2 (by omega)
 have Hw:=Lib.hid (λ(V:World)(h:PB w V LA ln lc ls)=>(within_one 2 4 (ln:Int) V.heap.size (V.alloc (.cells #[.int .i64 (ln:Nat)] 2)) (by simp) ((Blk.new V 2 #[.int .i64 (ln:Nat)]).cell 0)).mono λe w' he=>he)
 rw[hin]at Hw
 have hfal:∀l:List Lw,l.any (λ_=>false)=false:=λl=>by induction l<;>simp_all
 have H1:=Lib.hid (λ(V:World)(h:PB w V LA ln lc ls)=>containsW 282 #[] (enters_of Tryz.func282 (by kernel_rfl) rfl) (λ_=>false) LA ln lc ls V h.pan.sl (λx W hx hb=>size_ok x W (by have:=(h.pan.rows x hx).len;have:=hok.n1 x hx;omega)))
 have H2:=Lib.hid (λ(V:World)(h:PB w V LA ln lc ls)=>containsW 283 #[] (enters_of Tryz.func283 (by kernel_rfl) rfl) (λ_=>false) LA ln lc ls V h.pan.sl (λx W hx hb=>stray_ok x W ((h.pan.rows x hx).later hb) (hok.x1 x hx)))
 have H3:=Lib.hid (λ(V:World)(h:PB w V LA ln lc ls)=>containsW 285 #[.pointer (some ⟨w.heap.size,0,none⟩)] (enters_of Tryz.func285 (by kernel_rfl) rfl) (λ_=>false) LA ln lc ls V h.pan.sl (λx W hx hb=>equal_ok x ls[0] w.heap.size LA ln lc ls W (h.pan.later hb) (Nat.lt_of_lt_of_le h.b0.lt hb.size) ((h.b0.later hb).cell 0) hx (List.getElem?_eq_getElem (by omega)) hok))
 simp only[hfal]at H1 H2 H3
 clear hp hok hl h2 h4 hin hfal
 obtain⟨c0,c1,c2⟩:=HK0.out.cells
 go_enter Tryz.func197,Tryz.ntmps197
 go_wp2_with fail
 have hw0:=Hw.out _ HK0.out
 rw[World.size_alloc]at hw0
 refine hw0.mono ?_
 rintro e w1⟨rfl,hb⟩
 clear hw0
 have hbb:=Below.later (balloc (brefl _) (.cells #[.int .i64 (ln:Nat)] 2)) hb
 have HK1:=Lib.hid (HK0.out.later (hbb))
 clear HK0 c0 c1 c2
 obtain⟨c0,c1,c2⟩:=HK1.out.cells
 clear hb hbb Hw
 go_wp2_with fail
 refine(H1.out _ HK1.out).mono ?_
 rintro e w1⟨rfl,hb⟩
 have HK2:=Lib.hid (HK1.out.later hb)
 clear hb HK1 c0 c1 c2
 obtain⟨c0,c1,c2⟩:=HK2.out.cells
 go_wp2_with fail
 refine(H2.out _ HK2.out).mono ?_
 rintro e w2⟨rfl,hb⟩
 have HK3:=Lib.hid (HK2.out.later hb)
 clear hb HK2 c0 c1 c2
 obtain⟨c0,c1,c2⟩:=HK3.out.cells
 go_wp2_with fail
 refine(H3.out _ HK3.out).mono ?_
 rintro e w3⟨rfl,hb⟩
 have HK4:=Lib.hid (HK3.out.later hb)
 clear hb HK3 c0 c1 c2
 obtain⟨c0,c1,c2⟩:=HK4.out.cells
 have HB:=Lib.hid (HK4.out.bel)
 go_wp2
 go_ret
 exact⟨rfl,HB.out⟩
structure Bn(W:World)(T:Nat)(LA:Option Addr)(ln lc:Nat)(ls:List Lw):Prop where
 b:Blk W T 262 #[.slice LA ln lc]
 pan:PanIn W LA ln lc ls
theorem Bn.later{W W':World}{T:Nat}{LA:Option Addr}{ln lc:Nat}{ls:List Lw}(h:Bn W T LA ln lc ls)(hb:Below W.heap.size W W'):Bn W' T LA ln lc ls:=⟨h.b.later hb,h.pan.later hb⟩
set_option maxRecDepth 100000 in
set_option maxHeartbeats 2000000 in
theorem open_ok(LA:Option Addr)(ln lc:Nat)(ls:List Lw)(w:World)(hp:PanIn w LA ln lc ls)(hok:PanOk ls):
 Calls Tryz.prog 95 #[.agg #[.slice LA ln lc],.slice none 0 0] w λe w'=>∃T,e=.returned (.tuple #[.pointer (some ⟨T,0,none⟩),.int .i64 0])/\Below w.heap.size w w'/\w.heap.size<=T/\Bn w' T LA ln lc ls:=by
 have HK0:=Lib.hid (PB.start hp)
 have Hc:=Lib.hid (λ(V:World)(h:PB w V LA ln lc ls)=>checkPanel_ok LA ln lc ls V h.pan hok)
 clear hp hok
 obtain⟨c0,c1,c2⟩:=HK0.out.cells
 go_enter Tryz.func95,Tryz.ntmps95
 go_wp2_with fail
 refine(Hc.out _ HK0.out).mono ?_
 rintro e w4⟨rfl,hb⟩
 have HK1:=Lib.hid (HK0.out.later hb)
 clear hb HK0 c0 c1 c2
 obtain⟨c0,c1,c2⟩:=HK1.out.cells
 clear Hc
 go_wp2_with fail
 refine lpn (λq a W=>a.defers=[]/\PB w W LA ln lc ls/\Fits (none::none::some (.pointer (some ⟨w.heap.size,0,none⟩))::none::none::none::none::none::none::none::none::none::none::none::some (.slice none 0 0)::some (.int .i64 0)::some (.int .i64 0)::none::none::none::none::none::none::none::none::none::none::none::none::none::none::none::[]) a.tmps.toList) 0 ?_ ?_
 ·refine⟨rfl,HK1.out,?_⟩
  repeat (first|exact ftL|refine ftN ?_|refine ftS ?_)
 clear HK1 c0 c1 c2
 intro q a W hI K1 hK
 obtain⟨hds,hC,hfit⟩:=hI
 obtain⟨f',hf'⟩:=ftA hfit
 rw[hds]at hf'
 subst hf'
 clear hfit hds
 simp only[fillP,Nat.reduceAdd]
 obtain⟨c0,c1,c2⟩:=hC.cells
 have HC:=Lib.hid hC
 clear hC hK
 go_wp2
 go_ret2
 exact⟨W.heap.size,rfl,balloc HC.out.bel _,HC.out.bel.size,Blk.new W _ _,HC.out.pan.later (balloc (brefl _) _)⟩
end Go.Proofs.YtifehdoghfnhoaaGreatDoor.Sm
namespace Go.Proofs.YtifehdoghfnhoaaGreatDoor.Sm
open Go.RowKit Go.Shelf
@[irreducible] def mArr (F:Nat->Int):Array Value:=((List.range 5).map (λj=>Value.int .i64 (F j))).toArray
theorem mArr_get(F:Nat->Int){j:Nat}(h:j<5):(mArr F)[j]? =some (.int .i64 (F j)):=by unfold mArr;simp[h]
theorem mArr_size(F:Nat->Int):(mArr F).size=5:=by unfold mArr;simp
theorem mArr_set(F:Nat->Int)(j:Nat)(v:Int):(mArr F).setIfInBounds j (.int .i64 v)=mArr (updN F j v):=by
 apply Array.ext
 ·simp[mArr_size]
 ·intro i h1 h2
  have hi:i<5:=by simpa[mArr_size]using h2
  have e1:=mArr_get (updN F j v) hi
  have e2:=mArr_get F hi
  rw[Array.getElem?_eq_getElem h2]at e1
  rw[Array.getElem?_eq_getElem (by simpa[mArr_size]using hi)]at e2
  simp only[Option.some.injEq]at e1 e2
  rw[e1,Array.getElem_setIfInBounds (by simpa[mArr_size]using hi)]
  by_cases e:j=i
  ·subst e;simp[updN]
  ·rw[if_neg e,e2]
   simp[updN,show¬i=j fromλh=>e h.symm]
theorem und_int:Tryz.prog.underlying 3=some (.int .i64):=by kernel_rfl
theorem info_marks:∃i,Tryz.prog.info? 264=some i/\i.size=5/\i.zero=some (.agg (mArr λ_=>0)):=by
 have h:(Tryz.prog.info? 264).map (λi=>(i.size,i.zero))=some (5,some (.agg (mArr λ_=>0))):=by kernel_rfl
 cases hi:Tryz.prog.info? 264 with
 |none=>simp[hi]at h
 |some i=>simp only[hi,Option.map_some,Option.some.injEq,Prod.mk.injEq]at h;exact⟨i,rfl,h.1,h.2⟩
theorem eqm_items(d:Nat)(A B:Nat->Int)(W:World):∀l:List Nat,(∀j∈l,j<5)->(Op.eqItems (d+1) 3 1 (mArr A) (mArr B) l).run Tryz.prog W=.ok (l.all λj=>A j==B j) W:=by
 intro l
 induction l with
 |nil=>intro _;simp[Op.eqItems]
 |cons j l ih=>
  intro h
  have ih:=ih (λk hk=>h k (by simp[hk]))
  have p1:∀F,(part 3 (mArr F) j).run Tryz.prog W=.ok (.int .i64 (F j)) W:=by
   intro F
   have hpk:Tryz.prog.plainKey 3=true:=by kernel_rfl
   exact run_part_plain W hpk (mArr_get F (h j (by simp)))
  simp only[Op.eqItems,Nat.mul_one,Sem.run_bind,p1,Result.andThen_ok,run_equalIn_int _ _ _ _ _ _ _ und_int]
  cases hab:(A j==B j)with
  |true=>simp[hab,ih]
  |false=>simp[hab]
theorem marks_eq(A B:Nat->Int)(W:World):(Op.equalIn 10000 264 (.agg (mArr A)) (.agg (mArr B))).run Tryz.prog W=.ok ((List.range 5).all λj=>A j==B j) W:=by
 have hq:(Tryz.prog.info? 3).isSome=true:=by kernel_rfl
 obtain⟨i,hi⟩:=Option.isSome_iff_exists.1 hq
 have hu:Tryz.prog.underlying 264=some (.array 5 3):=by kernel_rfl
 rw[run_equalIn_array (P:=Tryz.prog) (w:=W) 9999 (e:=3) (n:=5) (mArr A) (mArr B) hu hi,show Tryz.prog.cellsOf 3=1 from by kernel_rfl]
 exact eqm_items 9998 A B W _ (λj hj=>List.mem_range.1 hj)
theorem load_marks{W:World}{T:Nat}{A:Nat->Int}(h:Blk W T 264 (mArr A)):(loadVar 264 ⟨T,0,none⟩).run Tryz.prog W=.ok (.agg (mArr A)) W:=by
 have hl:(loadCells ⟨T,0,none⟩ (mArr A).toList.length).run Tryz.prog W=.ok (mArr A).toList.toArray W:=
  run_loadCells_list (P:=Tryz.prog) W ⟨T,0,none⟩ (mArr A).toList (λj v hv=>by
   have hj:j<5:=by have:=(List.getElem?_eq_some_iff.1 hv).1;simpa[mArr_size]using this
   have hadd:(⟨T,0,none⟩:Addr).add j=⟨T,j,none⟩:=by unfold Addr.add;split<;>simp_all
   rw[hadd,h.cell j]
   simpa using hv)
 have hsz:(mArr A).toList.length=5:=by simp[mArr_size]
 rw[hsz]at hl
 obtain⟨i,hi,hs,_⟩:=info_marks
 have hagg:(isAgg 264).run Tryz.prog W=.ok true W:=by
  unfold isAgg
  rw[Sem.run_bind,run_underlying (t:=264) (d:=.array 5 3) (by kernel_rfl) W]
  rfl
 simp only[Array.toArray_toList]at hl
 simp[loadVar,Sem.run_bind,hagg,sizeOf,typeInfo,hi,hs,hl]
theorem zero_marks(w:World):(zeroValue 264).run Tryz.prog w=.ok (.agg (mArr λ_=>0)) w:=by
 obtain⟨i,hi,_,hz⟩:=info_marks
 simp[zeroValue,typeInfo,Sem.run_bind,hi,hz]
structure MW(w W:World)(F:Nat->Int)(T:Nat)(LA:Option Addr)(ln lc:Nat)(ls:List Lw):Prop where
 bel:Below w.heap.size w W
 b0:Blk W w.heap.size 264 (mArr F)
 bn:Bn W T LA ln lc ls
section
variable{w W W':World}{F:Nat->Int}{T:Nat}{LA:Option Addr}{ln lc:Nat}{ls:List Lw}
theorem MW.later(h:MW w W F T LA ln lc ls)(hb:Below W.heap.size W W'):MW w W' F T LA ln lc ls:=⟨Below.later h.bel hb,h.b0.later hb,h.bn.later hb⟩
end
structure OrdOk(n:Nat)(os:List Int):Prop where
 len:os.length=n
 rng:∀o∈os,0<=o/\o<n
 nd:os.Nodup
def seenM(os:List Int)(k:Nat):Nat->Int:=λj=>if(j:Int)∈os.take k then 1 else 0
theorem seenM_zero(os:List Int):seenM os 0=λ_=>0:=by
 funext j
 simp[seenM]
theorem seenM_succ{os:List Int}{k x:Nat}(h:os[k]? =some (x:Int)):updN (seenM os k) x 1=seenM os (k+1):=by
 obtain⟨h1,h2⟩:=List.getElem?_eq_some_iff.1 h
 funext j
 unfold seenM updN
 rw[List.take_succ_eq_append_getElem h1,h2]
 by_cases e:j=x
 ·subst e
  simp
 ·rw[if_neg e]
  have e2:¬((j:Int)=(x:Int)):=by omega
  simp[e2]
theorem seenM_new{os:List Int}{k x:Nat}(hn:os.Nodup)(h:os[k]? =some (x:Int)):seenM os k x=0:=by
 obtain⟨h1,h2⟩:=List.getElem?_eq_some_iff.1 h
 unfold seenM
 rw[if_neg]
 intro hm
 obtain⟨j,hj,e⟩:=List.mem_take_iff_getElem.1 hm
 have hj2:j<k:=by omega
 exact absurd (e.trans h2.symm) (List.pairwise_iff_getElem.1 hn j k (by omega) h1 hj2)
set_option maxRecDepth 100000 in
set_option maxHeartbeats 4000000 in
theorem isOrder_ok(T i:Nat)(LA:Option Addr)(ln lc:Nat)(ls:List Lw)(r:Lw)(OA:Option Addr)(on oc:Nat)(os:List Int)(w:World)(hb:Bn w T LA ln lc ls)(hr:ls[i]? =some r) (h5:1<=r.n/\r.n<=5) (ho:Sl 1 encI w w.heap.size OA on oc os) (hok:OrdOk r.n os):
 Calls Tryz.prog 96 #[.pointer (some ⟨T,0,none⟩),.int .i64 (i:Nat),.slice OA on oc] w λe w'=>e=.returned (.bool true)/\Below w.heap.size w w':=by
 have hol:=ho.len
 have hlen:=hok.len
 obtain rfl:on=r.n:=by omega
 have hln:=hb.pan.sl.len
 have hil:i<ln:=by have:=(List.getElem?_eq_some_iff.1 hr).1;omega
 have hT:=hb.b.lt
 have hb0:Blk (w.alloc (.cells (mArr λ_=>0) 264)) w.heap.size 264 (mArr λ_=>0):=Blk.new w _ _
 have hbs:=blk_setCells (List.replicate 5 (.int .i64 0)) 0 _ hb0 (λj v hv=>by
  obtain⟨hj,rfl⟩:=repl_get hv
  rw[Nat.zero_add,mArr_get _ hj])
 have hcl:=λty=>Lib.run_clear_slice (P:=Tryz.prog) (w.alloc (.cells (mArr λ_=>0) 264)) 43 3 ty (.int .i64 0) (by kernel_rfl) (λ_=>by rfl) rfl rfl w.heap.size 0 5 5 (by omega) (λj hj=>by rw[hb0.cell,Nat.zero_add,mArr_get _ hj];rfl) (λj hj=>hb0.frozen _)
 have Hcl:=Lib.hid hcl
 have hbel:Below w.heap.size w ((w.alloc (.cells (mArr λ_=>0) 264)).setCells w.heap.size 0 (List.replicate 5 (.int .i64 0))):=(balloc (brefl w) (.cells (mArr λ_=>0) 264)).trans (Lib.below_setCells_w (Nat.le_refl _) _ 0 _)
 have HC:=Lib.hid (show MW w _ (seenM os 0) T LA ln lc ls from⟨hbel,by rw[seenM_zero];exact hbs,hb.later hbel⟩)
 have hz:=zero_marks w
 have c0:=hb0.lt
 have Hb:=Lib.hid hb
 have Ho:=Lib.hid ho
 have Hok:=Lib.hid hok
 have Hr:=Lib.hid hr
 have Hil:=Lib.hid hil
 clear hb0 hbs hcl hb ho hok hr hol hlen hln hil hbel
 go_enter Tryz.func96,Tryz.ntmps96
 go_wp2_with (refine wpList_alloc_val rfl 264 rfl _ hz ?_)
 clear hz
 rw[Hcl.out]
 simp only[Result.andThen]
 rw[Oper.upon_value]
 generalize (w.alloc (.cells (mArr λ_=>0) 264)).setCells w.heap.size 0 (List.replicate 5 (.int .i64 0))=W0 at*
 clear Hcl c0
 go_wp2_with fail
 refine lpn (λq a W=>a.defers=[]/\∃k:Nat,k+q=r.n/\MW w W (seenM os k) T LA ln lc ls/\Fits (some (.pointer (some ⟨T,0,none⟩))::some (.int .i64 (i:Nat))::some (.slice OA r.n oc)::none::none::none::none::some (.pointer (some ⟨w.heap.size,0,none⟩))::none::none::none::some (.slice OA r.n oc)::some (.int .i64 (r.n:Nat))::some (.int .i64 (k:Nat))::none::none::none::none::none::none::none::none::none::none::none::none::none::none::none::none::none::none::none::none::none::none::none::none::none::none::none::none::none::none::none::none::none::none::none::none::none::none::none::none::none::none::none::[]) a.tmps.toList) r.n ?_ ?_
 ·refine⟨rfl,0,by omega,HC.out,?_⟩
  repeat (first|exact ftL|refine ftN ?_|refine ftS ?_)
 clear HC
 clear W0
 intro q a W hI K1 hK
 obtain⟨hds,k,hkq,hC,hfit⟩:=hI
 obtain⟨f',hf'⟩:=ftA hfit
 rw[hds]at hf'
 subst hf'
 clear hfit hds
 simp only[fillP,Nat.reduceAdd]
 have HC:=Lib.hid hC
 obtain⟨lb,lo,r',rfl,hlb,hx,y0⟩:=ltLw hC.bn.pan.sl Hil.out
 rw[Hr.out]at hx
 cases hx
 have t0:=hC.bn.b.cell 0
 have t1:=hC.bn.b.lt
 have j1:(i:Int)<(ln:Int):=by have:=Hil.out;omega
 have j2:(0:Int)<=(i:Int):=by omega
 by_cases hlt:k<r.n
 ·obtain⟨ob,oo,x,rfl,hob,hx,x0⟩:=(Ho.out.later hC.bel).ltI hlt
  have hxr:=Hok.out.rng x (List.mem_of_getElem? hx)
  obtain⟨xn,rfl⟩:∃xn:Nat,x=xn:=⟨x.toNat,by omega⟩
  have hnew:=seenM_new Hok.out.nd hx
  have Hsu:=Lib.hid (seenM_succ hx)
  have c0:=hC.b0.cell xn
  rw[mArr_get _ (show xn<5 by omega),hnew]at c0
  have c2:=hC.b0.lt
  have c3:=hC.b0.frozen xn
  have hin:inR 0 ((r.n:Int)-1) (xn:Int)=true:=(inR_iff _ _ _).2 (by omega)
  have Hw:=Lib.hid (within_one 0 ((r.n:Int)-1) (xn:Int) W.heap.size (W.alloc (.cells #[.int .i64 (xn:Int)] 2)) (by simp) ((Blk.new W 2 #[.int .i64 (xn:Int)]).cell 0))
  rw[hin]at Hw
  have i1:(k:Int)<(r.n:Int):=by omega
  have i2:(0:Int)<=(k:Int):=by omega
  have i3:IntKind.i64.wrap ((k:Int)+1)=(k:Int)+1:=by rw[IntKind.wrap_i64];omega
  have i4:IntKind.i64.wrap ((r.n:Int)-1)=(r.n:Int)-1:=by rw[IntKind.wrap_i64];omega
  have i5:(xn:Int)<5:=by omega
  have i6:(0:Int)<=(xn:Int):=by omega
  have Hx:=Lib.hid hx
  clear hx hxr hnew hin hC
  go_wp2_with fail
  refine Hw.out.mono ?_
  rintro e w2⟨rfl,hb2⟩
  have hbb:=Below.later (balloc (brefl W) (.cells #[.int .i64 (xn:Int)] 2)) hb2
  have HC2:=Lib.hid (HC.out.later hbb)
  have e0:=HC2.out.b0.cell xn
  rw[mArr_get _ (show xn<5 by omega),seenM_new Hok.out.nd Hx.out]at e0
  have e2:=HC2.out.b0.lt
  have e3:=HC2.out.b0.frozen xn
  have hset:MW w (w2.setCell ⟨w.heap.size,xn,none⟩ (.int .i64 1)) (seenM os (k+1)) T (some ⟨lb,lo,none⟩) ln lc ls:=by
   have hs:=HC2.out.b0.set xn (.int .i64 1)
   rw[mArr_set,Hsu.out]at hs
   have hbl:=bset HC2.out.bel (p:=⟨w.heap.size,xn,none⟩) (by simp) (.int .i64 1)
   exact⟨hbl,hs,Hb.out.later hbl⟩
  have HC3:=Lib.hid hset
  clear hb2 hbb hset c0 c2 c3 t0 t1 y0 x0 hob hlb
  go_wp2
  refine hK _ _ (q-1) (by omega) ⟨rfl,k+1,by omega,HC3.out,?_⟩
  repeat (first|exact ftL|refine ftN ?_|refine ftS ?_)
 ·obtain rfl:k=r.n:=by omega
  have hld:=load_marks hC.b0
  have heq:=marks_eq (seenM os r.n) (λ_=>0) W
  have hne:((List.range 5).all λj=>seenM os r.n j==0)=false:=by
   have hl0:=Hok.out.len
   obtain⟨x,hx⟩:∃x,os[0]? =some x:=⟨os[0],List.getElem?_eq_getElem (by omega)⟩
   have hm:=List.mem_of_getElem? hx
   have hxr:=Hok.out.rng x hm
   rw[List.all_eq_false]
   refine⟨x.toNat,List.mem_range.2 (by omega),?_⟩
   unfold seenM
   rw[if_pos (by rw[Int.toNat_of_nonneg hxr.1,<-hl0,List.take_length];exact hm)]
   simp
  rw[hne]at heq
  obtain⟨ie,hie⟩:=Option.isSome_iff_exists.1 (show(Tryz.prog.info? 3).isSome=true by kernel_rfl)
  have Hie:=Lib.hid hie
  have c2:=hC.b0.lt
  have HB:=Lib.hid hC.bel
  have i7:¬((r.n:Int)<(r.n:Int)):=by omega
  clear hK hC hne hie hlt hkq HC
  go_wp2_with (first|refine wpList_load_val rfl 264 _ rfl _ rfl _ hld ?_|refine wpList_build_val rfl 264 rfl 5 3 ie (by kernel_rfl) Hie.out _ (zero_marks _) ?_)
  go_ret
  exact⟨rfl,HB.out⟩
def atS(xs os:List Int)(j:Nat):Int:=((os.take j).map λo=>xs.getD o.toNat 0).sum
def seamsL(xs os:List Int)(m:Nat):List Int:=(List.range m).map λj=>atS xs os (j+1)
theorem atS_zero(xs os:List Int):atS xs os 0=0:=by simp[atS]
theorem atS_succ{xs os:List Int}{j o:Nat}{x:Int}(h:os[j]? =some (o:Int)) (hx:xs[o]? =some x):atS xs os (j+1)=atS xs os j+x:=by
 obtain⟨h1,h2⟩:=List.getElem?_eq_some_iff.1 h
 unfold atS
 rw[List.take_succ_eq_append_getElem h1,List.map_append,List.sum_append,h2]
 simp[List.getD,hx]
theorem seamsL_succ(xs os:List Int)(m:Nat):seamsL xs os (m+1)=seamsL xs os m++[atS xs os (m+1)]:=by simp[seamsL,List.range_succ]
theorem seamsL_len(xs os:List Int)(m:Nat):(seamsL xs os m).length=m:=by simp[seamsL]
theorem atS_bound{xs os:List Int}(hx:∀x∈xs,0<=x/\x<=100)(j:Nat):0<=atS xs os j/\atS xs os j<=100*(os.take j).length:=by
 unfold atS
 induction os.take j with
 |nil=>simp
 |cons o l ih=>
  have h1:0<=xs.getD o.toNat 0/\xs.getD o.toNat 0<=100:=by
   rw[List.getD_eq_getElem?_getD]
   cases h:xs[o.toNat]? with
   |none=>simp
   |some x=>exact hx x (List.mem_of_getElem? h)
  simp only[List.map_cons,List.sum_cons,List.length_cons]
  omega
structure SW(w W:World)(v:Value)(zs:List Int):Prop where
 bel:Below w.heap.size w W
 own:W.ownsRow w.heap.size 2 1 v zs.length (zs.map (.int .i64))
theorem SW.later{w W W':World}{v:Value}{zs:List Int}(h:SW w W v zs)(hb:Below W.heap.size W W'):SW w W' v zs:=⟨Below.later h.bel hb,owL h.own hb⟩
theorem SW.grown{w W W':World}{v v':Value}{zs:List Int}{x:Int}(h:SW w W v zs)(hg:W.grownBy W' v.ownBlock)(ho:W'.ownsRow w.heap.size 2 1 v' (zs.length+1) (zs.map (Value.int .i64)++[.int .i64 x])):SW w W' v' (zs++[x]):=
 ⟨below_row h.bel hg (own_base h.own) h.bel.size,by simpa using ho⟩
set_option maxRecDepth 100000 in
set_option maxHeartbeats 4000000 in
theorem seams_ok(T i:Nat)(LA:Option Addr)(ln lc:Nat)(ls:List Lw)(r:Lw)(OA:Option Addr)(on oc:Nat)(os:List Int)(w:World)(hb:Bn w T LA ln lc ls)(hr:ls[i]? =some r) (h5:1<=r.n/\r.n<=5) (hx:∀x∈r.xs,1<=x/\x<=100) (ho:Sl 1 encI w w.heap.size OA on oc os) (hok:OrdOk r.n os):
 Calls Tryz.prog 97 #[.pointer (some ⟨T,0,none⟩),.int .i64 (i:Nat),.slice OA on oc] w λe w'=>∃A c,e=.returned (.slice A (r.n-1) c)/\Below w.heap.size w w'/\w'.ownsRow w.heap.size 2 1 (.slice A (r.n-1) c) (seamsL r.xs os (r.n-1)).length ((seamsL r.xs os (r.n-1)).map (Value.int .i64)):=by
 have hol:=ho.len
 have hlen:=hok.len
 obtain rfl:on=r.n:=by omega
 have hln:=hb.pan.sl.len
 have hil:i<ln:=by have:=(List.getElem?_eq_some_iff.1 hr).1;omega
 have hcap:=ho.cap
 obtain⟨ob,oo,rfl,_⟩:=ho.at_ (show 0<r.n by omega)
 obtain⟨m,hm⟩:∃m,r.n-1=m:=⟨_,rfl⟩
 have Hrow:=Lib.hid (hb.pan.rows r (List.mem_of_getElem? hr))
 have Hrl:=Lib.hid (hb.pan.rows r (List.mem_of_getElem? hr)).len
 have Hb:=Lib.hid hb
 have Ho:=Lib.hid ho
 have Hok:=Lib.hid hok
 have Hr:=Lib.hid hr
 have Hil:=Lib.hid hil
 have Hx:=Lib.hid hx
 have Hm:=Lib.hid (show r.n=m+1/\m<=4 by omega)
 have k1:IntKind.i64.wrap ((r.n:Int)-1)=(m:Int):=by rw[IntKind.wrap_i64];omega
 have k2:(0:Int)<=(m:Int):=by omega
 have k3:(m:Int)<=(oc:Int):=by omega
 rw[hm]
 have HS:=Lib.hid (show SW w w (.slice none 0 0) (seamsL r.xs os 0)from⟨brefl w,World.ownsRow_nil _ _ _ _⟩)
 clear hb ho hok hr hol hlen hln hil hx hcap hm h5
 go_enter Tryz.func97,Tryz.ntmps97
 go_wp2_with fail
 refine lpn (λq a W=>a.defers=[]/\∃(k:Nat)(v:Value),k+q=m/\SW w W v (seamsL r.xs os k)/\Fits (some (.pointer (some ⟨T,0,none⟩))::some (.int .i64 (i:Nat))::some (.slice (some ⟨ob,oo,none⟩) r.n oc)::none::none::none::some (.slice none 0 0)::some (v)::some (.int .i64 (atS r.xs os k))::none::none::none::none::none::none::some (.slice (some ⟨ob,oo,none⟩) m oc)::some (.int .i64 (m:Nat))::some (.int .i64 (k:Nat))::none::none::none::none::none::none::none::none::none::none::none::none::none::none::none::none::none::none::none::none::none::none::[]) a.tmps.toList) m ?_ ?_
 ·refine⟨rfl,0,_,by omega,HS.out,?_⟩
  rw[atS_zero]
  repeat (first|exact ftL|refine ftN ?_|refine ftS ?_)
 clear HS
 intro q a W hI K1 hK
 obtain⟨hds,k,v,hkq,hS,hfit⟩:=hI
 obtain⟨f',hf'⟩:=ftA hfit
 rw[hds]at hf'
 subst hf'
 clear hfit hds
 simp only[fillP,Nat.reduceAdd]
 by_cases hlt:k<m
 ·have HBn:=Hb.out.later hS.bel
  obtain⟨lb,lo,r',rfl,hlb,hx,y0⟩:=ltLw HBn.pan.sl Hil.out
  rw[Hr.out]at hx
  cases hx
  have t0:=HBn.b.cell 0
  have t1:=HBn.b.lt
  have j1:(i:Int)<(ln:Int):=by have:=Hil.out;omega
  have j2:(0:Int)<=(i:Int):=by omega
  obtain⟨b1,o1,x,e1,hob,hx,x0⟩:=(Ho.out.later hS.bel).ltI (show k<r.n by have:=Hm.out;omega)
  cases e1
  have hxr:=Hok.out.rng x (List.mem_of_getElem? hx)
  obtain⟨xn,rfl⟩:∃xn:Nat,x=xn:=⟨x.toNat,by omega⟩
  obtain⟨rb,ro,y,hA,hrb,hy,y1⟩:=(Hrow.out.later hS.bel).ltI (show xn<r.n by omega)
  rw[hA]at y0
  have hadd:=atS_succ hx hy
  have hyb:=Hx.out y (List.mem_of_getElem? hy)
  have hb0:=atS_bound (os:=os) (λx hx=>⟨by have:=(Hx.out x hx).1;omega,(Hx.out x hx).2⟩) k
  have hb1:(os.take k).length<=4:=by rw[List.length_take];have:=Hm.out;omega
  have hsucc:=seamsL_succ r.xs os k
  rw[hadd]at hsucc
  have hlen:=seamsL_len r.xs os k
  obtain⟨s0,hs0⟩:∃s,atS r.xs os k=s:=⟨_,rfl⟩
  obtain⟨zs,hzs⟩:∃zs,seamsL r.xs os k=zs:=⟨_,rfl⟩
  rw[hs0]at hsucc hadd hb0
  rw[hzs]at hsucc hlen hS
  have i1:(k:Int)<(m:Int):=by omega
  have i2:(0:Int)<=(k:Int):=by omega
  have i3:IntKind.i64.wrap ((k:Int)+1)=(k:Int)+1:=by have:=Hm.out;rw[IntKind.wrap_i64];omega
  have i4:IntKind.i64.wrap (s0+y)=s0+y:=by rw[IntKind.wrap_i64];omega
  have i5:(xn:Int)<(r.n:Int):=by omega
  have i6:(0:Int)<=(xn:Int):=by omega
  have hzl:zs.length<=4:=by have:=Hm.out;omega
  obtain⟨i0,hi0,hz0,hz1,hz2⟩:=info_parts info_long
  have HRa:=Lib.hid (hS.later (balloc (brefl W) (.cells #[.int .i64 (s0+y)] 2)))
  have zbel:=hS.bel.size
  have Hadd:=Lib.hid hadd
  have Hsucc:=Lib.hid hsucc
  have Hkq:=Lib.hid hkq
  clear hx hy hA hxr hadd hsucc hS hyb hb0 hb1 HBn hlen hkq
  rw[hs0]
  clear hs0 hzs
  go_wp2_with (at_builtin;refine wpList_append_own _ rfl _ _ 40 rfl w.heap.size 2 i0 (.int .i64 0) 1 8 und_longs hi0 hz0 hz1 hz2 rfl (by decide) v zs.length _ rfl HRa.out.own ⟨W.heap.size,0,none⟩ 1 1 [.int .i64 (s0+y)] rfl rfl (one_new _ _ _) (by simp[Value.oneCell']) (by simp only[maxLen];omega) (by omega) (by simp;omega) ?_;intro v' W3 hown' hgr _;have HR4:=Lib.hid (HRa.out.grown hgr hown');clear hown' hgr)
  refine hK _ _ (q-1) (by have:=Hkq.out;omega) ⟨rfl,k+1,v',by have:=Hkq.out;omega,by rw[Hsucc.out];exact HR4.out,?_⟩
  rw[Hadd.out]
  repeat (first|exact ftL|refine ftN ?_|refine ftS ?_)
 ·obtain rfl:k=m:=by omega
  have i7:¬((k:Int)<(k:Int)):=by omega
  have hl:=seamsL_len r.xs os k
  obtain⟨A,c,rfl,hsl⟩:=own_slI hS.own rfl
  have HB:=Lib.hid hS.bel
  have HL:=Lib.hid (show W.ownsRow w.heap.size 2 1 (.slice A k c) (seamsL r.xs os k).length ((seamsL r.xs os k).map (Value.int .i64))from by have h:=hS.own;rw[hl]at h ⊢;exact h)
  clear hK hlt hkq hS hsl
  rw[hl]
  clear hl
  go_wp2_with fail
  go_ret
  exact⟨A,c,rfl,HB.out,HL.out⟩
end Go.Proofs.YtifehdoghfnhoaaGreatDoor.Sm
namespace Go.Proofs.YtifehdoghfnhoaaGreatDoor.Sm
open Go.RowKit Go.Shelf
theorem und_rows:Tryz.prog.underlying 53=some (.slice 40):=by kernel_rfl
theorem info_row:(Tryz.prog.info? 40).map (λi=>(i.zero,i.size,i.bytes))=some (some (.slice none 0 0),1,24):=by kernel_rfl
structure OutW(W:World)(B:Nat)(v:Value)(L:List Lw):Prop where
 own:W.ownsRow B 40 1 v L.length (L.flatMap encLw)
 rows:∀r∈L,W.ownsRow B 2 1 (.slice r.A r.n r.c) r.xs.length (r.xs.map (Value.int .i64))/\r.n=r.xs.length
theorem OutW.later{W W':World}{B:Nat}{v:Value}{L:List Lw}(h:OutW W B v L)(hb:Below W.heap.size W W'):OutW W' B v L:=⟨owL h.own hb,λr hr=>⟨owL (h.rows r hr).1 hb,(h.rows r hr).2⟩⟩
theorem OutW.app{W W':World}{B:Nat}{v v':Value}{L:List Lw}{r:Lw}(h:OutW W B v L)(hr:W.ownsRow B 2 1 (.slice r.A r.n r.c) r.xs.length (r.xs.map (Value.int .i64)))(hn:r.n=r.xs.length)(hg:W.grownBy W' v.ownBlock)(ho:W'.ownsRow B 40 1 v' (L.length+1) (L.flatMap encLw++[.slice r.A r.n r.c])):OutW W' B v' (L++[r]):=by
 refine⟨by simpa[encLw]using ho,λx hx=>?_⟩
 rcases List.mem_append.1 hx with hx|hx
 ·have h1:=h.rows x hx
  exact⟨own_grown h1.1 hg (own_apart (v':=v) h1.1 h.own (by decide)),h1.2⟩
 ·obtain rfl:x=r:=by simpa using hx
  exact⟨own_grown hr hg (own_apart (v':=v) hr h.own (by decide)),hn⟩
theorem OutW.fill{W:World}{B:Nat}{v:Value}{L:List Lw}(h:OutW W B v L):∃A c,v=.slice A L.length c/\PanIn W A L.length c L:=by
 obtain⟨A,c,hv,hsl⟩:=own_slG (k:=1) (enc:=encLw) (λ_=>rfl) h.own rfl
 refine⟨A,c,hv,hsl,λr hr=>?_⟩
 obtain⟨h1,h2⟩:=h.rows r hr
 obtain⟨A',c',hv',hsl'⟩:=own_slI h1 rfl
 simp only[Value.slice.injEq]at hv'
 obtain⟨rfl,h3,rfl⟩:=hv'
 rw[h2]
 exact hsl'
def xsOf(l:List Lw)(j:Nat):List Int:=(l.getD j ⟨none,0,0,[]⟩).xs
theorem xsOf_get{l:List Lw}{j:Nat}{r:Lw}(h:l[j]? =some r):xsOf l j=r.xs:=by simp[xsOf,List.getD,h]
def seamsTo(ls ords:List Lw)(k:Nat):List (List Int):=(List.range k).map λj=>seamsL (xsOf ls j) (xsOf ords j) ((xsOf ls j).length-1)
theorem seamsTo_succ(ls ords:List Lw)(k:Nat):seamsTo ls ords (k+1)=seamsTo ls ords k++[seamsL (xsOf ls k) (xsOf ords k) ((xsOf ls k).length-1)]:=by simp[seamsTo,List.range_succ]
structure JW(w W:World)(v:Value)(L:List Lw):Prop where
 bel:Below w.heap.size w W
 out:OutW W w.heap.size v L
section
variable{w W W':World}{v v':Value}{L:List Lw}{r:Lw}
theorem JW.later(h:JW w W v L)(hb:Below W.heap.size W W'):JW w W' v L:=⟨Below.later h.bel hb,h.out.later hb⟩
theorem JW.grown(h:JW w W v L)(hr:W.ownsRow w.heap.size 2 1 (.slice r.A r.n r.c) r.xs.length (r.xs.map (Value.int .i64)))(hn:r.n=r.xs.length)(hg:W.grownBy W' v.ownBlock)(ho:W'.ownsRow w.heap.size 40 1 v' (L.length+1) (L.flatMap encLw++[.slice r.A r.n r.c])):JW w W' v' (L++[r]):=
 ⟨below_row h.bel hg (own_base h.out.own) h.bel.size,h.out.app hr hn hg ho⟩
end
def OrdsOk(ls ords:List Lw):Prop:=ords.length=ls.length/\∀(j:Nat)r o,ls[j]? =some r->ords[j]? =some o->OrdOk r.n o.xs
set_option maxRecDepth 100000 in
set_option maxHeartbeats 4000000 in
theorem joined_ok(LA:Option Addr)(ln lc:Nat)(ls:List Lw)(OA:Option Addr)(on oc:Nat)(ords:List Lw)(w:World)(hp:PanIn w LA ln lc ls)(hok:PanOk ls)(ho:PanIn w OA on oc ords)(hoo:OrdsOk ls ords):
 Calls Tryz.prog 39 #[.agg #[.slice LA ln lc],.slice OA on oc] w λe w'=>∃A c L,e=.returned (.tuple #[.slice A L.length c,.int .i64 0])/\Below w.heap.size w w'/\PanIn w' A L.length c L/\L.map (·.xs)=seamsTo ls ords ls.length:=by
 have hln:=hp.sl.len
 have hon:=ho.sl.len
 obtain rfl:on=ln:=by have:=hoo.1;omega
 have HK:=Lib.hid (show _/\_ from⟨hp.later (balloc (brefl w) (.cells #[.slice LA on lc] 55)),ho.later (balloc (brefl w) (.cells #[.slice LA on lc] 55))⟩)
 have Hb0:=Lib.hid (balloc (brefl w) (.cells #[.slice LA on lc] 55))
 have c0:(w.alloc (.cells #[.slice LA on lc] 55)).cell? ⟨w.heap.size,0,none⟩=some (.slice LA on lc):=by simp
 have Hok:=Lib.hid hok
 have Hoo:=Lib.hid hoo
 have Hln:=Lib.hid hln
 have l4:on<=4:=by have:=hok.l4;omega
 clear hp ho hok hoo hln hon
 go_enter Tryz.func39,Tryz.ntmps39
 go_wp2_with fail
 refine(open_ok LA on lc ls _ HK.out.1 Hok.out).mono ?_
 rintro e w2⟨T,rfl,hb,hT,hbn⟩
 have hbw:=Below.later Hb0.out hb
 have HO:=Lib.hid (HK.out.2.later hb)
 have HN:=Lib.hid hbn
 have HB:=Lib.hid hbw
 have HT:=Lib.hid (show T<w2.heap.size/\w.heap.size<=w2.heap.size from⟨hbn.b.lt,hbw.size⟩)
 have c1:w2.cell? ⟨w.heap.size,0,none⟩=some (.slice LA on lc):=cell_later hb c0
 have c2:w.heap.size<w2.heap.size:=by have:=hb.size;simp at this;omega
 clear hb hT hbn hbw c0 HK Hb0
 have HJ:=Lib.hid (show JW w2 w2 (.slice none 0 0) []from⟨brefl w2,World.ownsRow_nil _ _ _ _,λr hr=>by cases hr⟩)
 go_wp2_with fail
 have HL0:=Lib.hid (show([]:List Lw).map (·.xs)=seamsTo ls ords 0 from rfl)
 refine lpn (λq a W=>a.defers=[]/\∃(k:Nat)(v:Value)(L:List Lw),k+q=on/\Hid (JW w2 W v L)/\Hid (L.map (·.xs)=seamsTo ls ords k)/\Fits (some (.agg #[.slice LA on lc])::some (.slice OA on oc)::some (.pointer (some ⟨w.heap.size,0,none⟩))::none::some (.slice none 0 0)::some (.int .i64 0)::some (.pointer (some ⟨T,0,none⟩))::none::some (.func (.func 96) #[.pointer (some ⟨T,0,none⟩)] #[])::some (v)::none::none::none::none::none::none::none::none::none::none::none::none::none::none::none::none::none::none::none::none::some (.slice OA on oc)::some (.int .i64 (on:Nat))::some (.int .i64 (k:Nat))::none::none::none::none::none::none::none::none::none::none::none::none::none::none::none::none::none::none::[]) a.tmps.toList) on ?_ ?_
 ·refine⟨rfl,0,_,_,by omega,HJ,HL0,?_⟩
  repeat (first|exact ftL|refine ftN ?_|refine ftS ?_)
 clear HJ HL0 HT c1 c2
 intro q a W hI K1 hK
 obtain⟨hds,k,v,L,hkq,HJ,HL,hfit⟩:=hI
 obtain⟨f',hf'⟩:=ftA hfit
 rw[hds]at hf'
 subst hf'
 clear hfit hds
 simp only[fillP,Nat.reduceAdd]
 by_cases hlt:k<on
 ·have hords:=HO.out.later HJ.out.bel
  obtain⟨ob,oo,o,rfl,hob,hx,y0⟩:=ltLw hords.sl hlt
  obtain⟨r,hr⟩:∃r,ls[k]? =some r:=⟨ls[k]'(by have:=Hln.out;omega),List.getElem?_eq_getElem _⟩
  have hrm:=List.mem_of_getElem? hr
  have hon:=Hoo.out.2 k r o hr hx
  have hrl:=(HN.out.pan.rows r hrm).len
  have h15:1<=r.n/\r.n<=5:=by have:=Hok.out.n1 r hrm;omega
  have Hr:=Lib.hid hr
  have Hhon:=Lib.hid hon
  have H15:=Lib.hid h15
  have Hx1:=Lib.hid (Hok.out.x1 r hrm)
  have Hlast:=Lib.hid (show seamsTo ls ords (k+1)=seamsTo ls ords k++[seamsL r.xs o.xs (r.n-1)]by rw[seamsTo_succ,xsOf_get hr,xsOf_get hx,show r.xs.length=r.n from hrl])
  have Hos:=Lib.hid (HO.out.rows o (List.mem_of_getElem? hx))
  have i1:(k:Int)<(on:Int):=by omega
  have i2:(0:Int)<=(k:Int):=by omega
  have i3:IntKind.i64.wrap ((k:Int)+1)=(k:Int)+1:=by rw[IntKind.wrap_i64];omega
  have Hkq:=Lib.hid (show k+q=on/\k<on from⟨hkq,hlt⟩)
  clear hx hr hrm hon hrl h15 hkq hlt hords
  go_wp2_with fail
  refine(isOrder_ok T k LA on lc ls r o.A o.n o.c o.xs _ (HN.out.later HJ.out.bel) Hr.out H15.out (Hos.out.later HJ.out.bel) Hhon.out).mono ?_
  rintro e w3⟨rfl,hb⟩
  have HJ2:=Lib.hid (HJ.out.later hb)
  clear hb HJ y0 hob
  go_wp2_with fail
  refine(seams_ok T k LA on lc ls r o.A o.n o.c o.xs _ (HN.out.later HJ2.out.bel) Hr.out H15.out Hx1.out (Hos.out.later HJ2.out.bel) Hhon.out).mono ?_
  rintro e w4⟨A1,c1,rfl,hb,hown⟩
  have hsl:=seamsL_len r.xs o.xs (r.n-1)
  have HJ3:=Lib.hid (HJ2.out.later hb)
  have Hown:=Lib.hid (own_low hown HJ2.out.bel.size)
  have hll:L.length=k:=by have h:=congrArg List.length HL.out;simpa[seamsTo]using h
  have hln:=seamsL_len r.xs o.xs (r.n-1)
  obtain⟨zs,hzs⟩:∃zs,seamsL r.xs o.xs (r.n-1)=zs:=⟨_,rfl⟩
  rw[hzs]at Hown Hlast hln
  have HL1:=Lib.hid (show(L++[(⟨A1,r.n-1,c1,zs⟩:Lw)]).map (·.xs)=seamsTo ls ords (k+1)by rw[List.map_append,HL.out,Hlast.out];rfl)
  have Hn:=Lib.hid hln.symm
  obtain⟨m,hm⟩:∃m,r.n-1=m:=⟨_,rfl⟩
  rw[hm]at Hown HL1 Hn ⊢
  obtain⟨i0,hi0,hz0,hz1,hz2⟩:=info_parts info_row
  have HRa:=Lib.hid (HJ3.out.later (balloc (brefl w4) (.cells #[.slice A1 m c1] 40)))
  have Ha:=Lib.hid (owL Hown.out (balloc (brefl w4) (.cells #[.slice A1 m c1] 40)))
  have zb:=HJ3.out.bel.size
  have Hll:=Lib.hid hll
  have hl4:L.length<=4:=by omega
  clear hb hown hsl hln hzs hm hll HJ2 HJ3 Hown Hlast HL
  go_wp2_with (at_builtin;refine wpList_append_own _ rfl _ _ 53 rfl w2.heap.size 40 i0 (.slice none 0 0) 1 24 und_rows hi0 hz0 hz1 hz2 rfl (by decide) v L.length _ rfl HRa.out.out.own ⟨w4.heap.size,0,none⟩ 1 1 [.slice A1 m c1] rfl rfl (one_new _ _ _) (by simp[Value.oneCell']) (by simp only[maxLen];omega) (by omega) (by simp;omega) ?_;intro v' W3 hown' hgr _;have HR4:=Lib.hid (HRa.out.grown (r:=⟨A1,m,c1,zs⟩) Ha.out Hn.out hgr hown');clear hown' hgr)
  refine hK _ _ (q-1) (by have:=Hkq.out;omega) ⟨rfl,k+1,v',L++[⟨A1,m,c1,zs⟩],by have:=Hkq.out;omega,HR4,HL1,?_⟩
  repeat (first|exact ftL|refine ftN ?_|refine ftS ?_)
 ·obtain rfl:k=on:=by omega
  have i7:¬((k:Int)<(k:Int)):=by omega
  obtain⟨A,c,rfl,hpan⟩:=HJ.out.out.fill
  have HB2:=Lib.hid (Below.later HB.out HJ.out.bel)
  have HP:=Lib.hid hpan
  have HL2:=Lib.hid (show L.map (·.xs)=seamsTo ls ords ls.length by rw[HL.out,Hln.out])
  clear hK hlt hkq HJ hpan
  go_wp2_with fail
  go_ret2
  exact⟨A,c,L,rfl,HB2.out,HP.out,HL2.out⟩
set_option maxRecDepth 100000 in
theorem Seams_ok(LA:Option Addr)(ln lc:Nat)(ls:List Lw)(OA:Option Addr)(on oc:Nat)(ords:List Lw)(w:World)(hp:PanIn w LA ln lc ls)(hok:PanOk ls)(ho:PanIn w OA on oc ords)(hoo:OrdsOk ls ords):
 Calls Tryz.prog 18 #[.agg #[.slice LA ln lc],.slice OA on oc] w λe w'=>∃A c L,e=.returned (.tuple #[.slice A L.length c,.int .i64 0])/\Below w.heap.size w w'/\PanIn w' A L.length c L/\L.map (·.xs)=seamsTo ls ords ls.length:=by
 have Hb0:=Lib.hid (balloc (brefl w) (.cells #[.slice LA ln lc] 55))
 have Hj:=Lib.hid (joined_ok LA ln lc ls OA on oc ords _ (hp.later Hb0.out) hok (ho.later Hb0.out) hoo)
 have c0:(w.alloc (.cells #[.slice LA ln lc] 55)).cell? ⟨w.heap.size,0,none⟩=some (.slice LA ln lc):=by simp
 clear hp hok ho hoo
 go_enter Tryz.func18,Tryz.ntmps18
 go_wp2_with fail
 refine Hj.out.mono ?_
 rintro e w2⟨A,c,L,rfl,hb,hP,hL⟩
 have HB:=Lib.hid (Below.later Hb0.out hb)
 have HP:=Lib.hid hP
 have HL:=Lib.hid hL
 clear hb hP hL c0 Hj Hb0
 go_wp2
 go_ret2
 exact⟨A,c,L,rfl,HB.out,HP.out,HL.out⟩
set_option maxRecDepth 100000 in
theorem HasLong_any(A:Option Addr)(n c:Nat)(xs:List Int)(x:Int)(w:World)(hs:Sl 1 encI w w.heap.size A n c xs):
 Calls Tryz.prog 20 #[.slice A n c,.int .i64 x] w λe w'=>e=.returned (.bool (xs.any λy=>y==x))/\Below w.heap.size w w':=by
 have hl:=hs.len
 have hcap:=hs.cap
 have hbig:=hs.big
 have Hs:=Lib.hid hs
 have Hl:=Lib.hid hl
 clear hs hl
 go_enter Tryz.func20,Tryz.ntmps20
 go_wp2_with fail
 refine lpn (λq a W=>a.defers=[]/\W=w/\∃(k:Nat),k+q=n/\Hid ((xs.take k).any (λy=>y==x)=false)/\Fits (some (.slice A n c)::some (.int .i64 x)::none::none::some (.bool false)::some (.int .i64 (k:Nat))::none::none::none::none::none::none::none::none::none::none::none::none::[]) a.tmps.toList) n ?_ ?_
 ·refine⟨rfl,rfl,0,by omega,Lib.hid (by simp),?_⟩
  repeat (first|exact ftL|refine ftN ?_|refine ftS ?_)
 intro q a W hI K1 hK
 obtain⟨hds,rfl,k,hkq,HA,hfit⟩:=hI
 obtain⟨f',hf'⟩:=ftA hfit
 rw[hds]at hf'
 subst hf'
 clear hfit hds
 simp only[fillP,Nat.reduceAdd]
 by_cases hlt:k<n
 ·obtain⟨b,o,y,rfl,hb,hx,y0⟩:=Hs.out.ltI hlt
  have hgl:=(List.getElem?_eq_some_iff.1 hx)
  have Htk:=Lib.hid (show xs.take (k+1)=xs.take k++[y]by obtain⟨h1,h2⟩:=hgl;rw[List.take_succ_eq_append_getElem h1,h2])
  have Hin:=Lib.hid (List.mem_of_getElem? hx)
  have i1:(k:Int)<(n:Int):=by omega
  have i2:(0:Int)<=(k:Int):=by omega
  have i3:IntKind.i64.wrap ((k:Int)+1)=(k:Int)+1:=by unfold maxLen at hbig;rw[IntKind.wrap_i64];omega
  have Hkq:=Lib.hid hkq
  clear hx hgl hkq
  cases he:(y==x)with
  |true=>
   have hany:(xs.any λy=>y==x)=true:=List.any_eq_true.2 ⟨y,Hin.out,he⟩
   have Hany:=Lib.hid hany
   clear hany Hin
   go_wp2_with fail
   go_ret
   exact⟨by rw[Hany.out];rfl,brefl W⟩
  |false=>
   have HA2:=Lib.hid (show(xs.take (k+1)).any (λy=>y==x)=false by rw[Htk.out,List.any_append,HA.out];simpa using he)
   clear Htk Hin HA
   go_wp2_with fail
   refine hK _ _ (q-1) (by have:=Hkq.out;omega) ⟨rfl,rfl,k+1,by have:=Hkq.out;omega,HA2,?_⟩
   repeat (first|exact ftL|refine ftN ?_|refine ftS ?_)
 ·obtain rfl:k=n:=by omega
  have i7:¬((k:Int)<(k:Int)):=by omega
  have hany:=HA.out
  rw[List.take_of_length_le (by have:=Hl.out;omega)]at hany
  have Hany:=Lib.hid hany
  clear hany HA hK hlt hkq
  go_wp2_with fail
  go_ret
  exact⟨by rw[Hany.out];rfl,brefl W⟩
end Go.Proofs.YtifehdoghfnhoaaGreatDoor.Sm
