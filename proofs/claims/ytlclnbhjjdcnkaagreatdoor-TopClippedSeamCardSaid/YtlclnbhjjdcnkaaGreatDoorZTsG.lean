/- The walk of TopClippedSeam. -/
import Derived.Test.YtlclnbhjjdcnkaaGreatDoorZTsF
import Derived.Test.YtlclnbhjjdcnkaaGreatDoorZCRefCuts
import Derived.Test.YtlclnbhjjdcnkaaGreatDoorZDagA
namespace Go.Proofs.YtlclnbhjjdcnkaaGreatDoor.Sm
open Go.RowKit Go.Shelf
theorem make_ints(n:Nat)(hn:n<=1000)(W:World):
 (Instr.makeSlice 22 (.int .i64 (n:Int)) (.int .i64 (n:Int))).run Tryz.prog W=.ok (.slice (some ⟨W.heap.size,0,none⟩) n n) (W.alloc (.cells (numArr n (λ_=>0)) 3)):=by
 have h:=run_make_row' (P:=Tryz.prog) 22 3 (.int .i64 0) 8 (by kernel_rfl) info_int rfl .i64 .i64 n (by omega) (by omega) W
 rw[numArr_made]at h
 exact_mod_cast h
structure RK(w W:World)(L:Int)(FA:Option Addr)(fn fc:Nat)(fs:List Int)(KA:Option Addr)(kc:Nat)(ks:List Kd):Prop where
 bel:Below w.heap.size w W
 b0:Blk W w.heap.size 24 #[.int .i64 L,.slice FA fn fc]
 sl:Sl 1 encI W W.heap.size FA fn fc fs
 ksl:Sl 3 encK W W.heap.size KA ks.length kc ks
section
variable{w W W':World}{L:Int}{FA:Option Addr}{fn fc:Nat}{fs:List Int}{KA:Option Addr}{kc:Nat}{ks:List Kd}
theorem RK.later(h:RK w W L FA fn fc fs KA kc ks)(hb:Below W.heap.size W W'):RK w W' L FA fn fc fs KA kc ks:=⟨Below.later h.bel hb,h.b0.later hb,h.sl.later hb,h.ksl.later hb⟩
theorem RK.cells(h:RK w W L FA fn fc fs KA kc ks):W.cell? ⟨w.heap.size,0,none⟩=some (.int .i64 L)/\W.cell? ⟨w.heap.size,1,none⟩=some (.slice FA fn fc)/\w.heap.size<W.heap.size:=⟨h.b0.cell 0,h.b0.cell 1,h.b0.lt⟩
end
structure CW(w W:World)(n:Nat)(M:Nat->Int)(v:Value)(st:List Int):Prop where
 bel:Below w.heap.size w W
 bw:Blk W w.heap.size 3 (numArr n M)
 own:W.ownsRow w.heap.size 2 1 v st.length (st.map (Value.int .i64))
section
variable{w W W':World}{n:Nat}{M:Nat->Int}{v v':Value}{st:List Int}{x:Int}
theorem CW.later(h:CW w W n M v st)(hb:Below W.heap.size W W'):CW w W' n M v st:=⟨Below.later h.bel hb,h.bw.later hb,own_later h.own hb⟩
theorem CW.set(h:CW w W n M v st)(j:Nat)(x:Int):CW w (W.setCell ⟨w.heap.size,j,none⟩ (.int .i64 x)) n (updN M j x) v st:=by
 refine⟨bset h.bel (by simp) _,?_,own_other h.own _ (h.bw.notRow h.own (by decide)) _⟩
 have h1:=h.bw.set j (.int .i64 x)
 rw[numArr_set]at h1
 exact h1
theorem CW.grown(h:CW w W n M v st)(hg:W.grownBy W' v.ownBlock)(ho:W'.ownsRow w.heap.size 2 1 v' (st.length+1) (st.map (Value.int .i64)++[.int .i64 x])):CW w W' n M v' (st++[x]):=
 ⟨below_row h.bel hg (own_base h.own) h.bel.size,h.bw.grown hg (h.bw.notRow h.own (by decide)),by simpa using ho⟩
end
theorem len_sum:∀{st:List Int},(∀x∈st,1<=x)->(st.length:Int)<=st.sum
 |[],_=>by simp
 |x::st,h=>by
  have h1:=len_sum (st:=st) (λy hy=>h y (by simp[hy]))
  have h2:=h x (by simp)
  simp
  omega
theorem moreS_yes{a b:Nat}(h:a<b):C.moreS a b=[(b:Int)-a]:=if_pos h
theorem moreS_no{a b:Nat}(h:¬a<b):C.moreS a b=[]:=if_neg h
structure OW(w W:World)(v:Value)(os:List Int):Prop where
 bel:Below w.heap.size w W
 own:W.ownsRow w.heap.size 3 1 v os.length (os.map (Value.int .i64))
theorem OW.later{w W W':World}{v:Value}{os:List Int}(h:OW w W v os)(hb:Below W.heap.size W W'):OW w W' v os:=⟨Below.later h.bel hb,own_later h.own hb⟩
theorem OW.grown{w W W':World}{v v':Value}{os:List Int}{x:Int}(h:OW w W v os)(hg:W.grownBy W' v.ownBlock)(ho:W'.ownsRow w.heap.size 3 1 v' (os.length+1) (os.map (Value.int .i64)++[.int .i64 x])):OW w W' v' (os++[x]):=
 ⟨below_row h.bel hg (own_base h.own) h.bel.size,by simpa using ho⟩
theorem sl_one{X:World}{b:Nat}{t:TypeId}{x:Int}(h:Blk X b t #[.int .i64 x]):Sl 1 encI X X.heap.size (some ⟨b,0,none⟩) 1 1 [x]:=
 ⟨rfl,Nat.le_refl _,by decide,λ_=>⟨b,0,rfl,h.lt,λi y hy j u hu=>by
   have hi:=(List.getElem?_eq_some_iff.1 hy).1
   have hj:=(List.getElem?_eq_some_iff.1 hu).1
   simp[encI]at hj hi
   subst hj hi
   simp at hy
   subst hy
   rw[show 0+0*1+0=0 from rfl,h.cell]
   simpa[encI]using hu⟩⟩
theorem pan_two{X:World}{b:Nat}{t:TypeId}{r s:Lw}(h:Blk X b t #[.slice r.A r.n r.c,.slice s.A s.n s.c])(hr:Sl 1 encI X X.heap.size r.A r.n r.c r.xs)(hs:Sl 1 encI X X.heap.size s.A s.n s.c s.xs):PanIn X (some ⟨b,0,none⟩) 2 2 [r,s]:=by
 refine⟨⟨rfl,Nat.le_refl _,by decide,λ_=>⟨b,0,rfl,h.lt,λi y hy j u hu=>?_⟩⟩,λq hq=>?_⟩
 ·have hi:=(List.getElem?_eq_some_iff.1 hy).1
  have hj:=(List.getElem?_eq_some_iff.1 hu).1
  simp[encLw]at hj hi
  subst hj
  rw[show 0+i*1+0=i by omega,h.cell]
  match i,hi,hy with
  |0,_,hy=>simp at hy;subst hy;simpa[encLw]using hu
  |1,_,hy=>simp at hy;subst hy;simpa[encLw]using hu
 ·simp at hq
  rcases hq with rfl|rfl
  ·exact hr
  ·exact hs
theorem pans(W:World)(SA:Option Addr)(n sc:Nat)(st:List Int)(OA:Option Addr)(oc:Nat)(os:List Int)(L:Int)(hs:Sl 1 encI W W.heap.size SA n sc st)(ho:Sl 1 encI W W.heap.size OA n oc os):
 ∃X,X=((((W.alloc (.cells #[.int .i64 L] 2)).alloc (.cells #[.slice SA n sc,.slice (some ⟨W.heap.size,0,none⟩) 1 1] 35)).alloc (.cells #[.int .i64 0] 3)).alloc (.cells #[.slice OA n oc,.slice (some ⟨W.heap.size+1+1,0,none⟩) 1 1] 22))/\PanIn X (some ⟨W.heap.size+1,0,none⟩) 2 2 [⟨SA,n,sc,st⟩,⟨some ⟨W.heap.size,0,none⟩,1,1,[L]⟩]/\PanIn X (some ⟨W.heap.size+1+1+1,0,none⟩) 2 2 [⟨OA,n,oc,os⟩,⟨some ⟨W.heap.size+1+1,0,none⟩,1,1,[0]⟩]/\Below W.heap.size W X:=by
 have b1:=balloc (brefl W) (.cells #[.int .i64 L] 2)
 have b2:=balloc b1 (.cells #[.slice SA n sc,.slice (some ⟨W.heap.size,0,none⟩) 1 1] 35)
 have b3:=balloc b2 (.cells #[.int .i64 0] 3)
 have b4:=balloc b3 (.cells #[.slice OA n oc,.slice (some ⟨W.heap.size+1+1,0,none⟩) 1 1] 22)
 have h1:=(((Blk.new W 2 #[.int .i64 L]).alloc (.cells #[.slice SA n sc,.slice (some ⟨W.heap.size,0,none⟩) 1 1] 35)).alloc (.cells #[.int .i64 0] 3)).alloc (.cells #[.slice OA n oc,.slice (some ⟨W.heap.size+1+1,0,none⟩) 1 1] 22)
 have h2:=((Blk.new (W.alloc (.cells #[.int .i64 L] 2)) 35 #[.slice SA n sc,.slice (some ⟨W.heap.size,0,none⟩) 1 1]).alloc (.cells #[.int .i64 0] 3)).alloc (.cells #[.slice OA n oc,.slice (some ⟨W.heap.size+1+1,0,none⟩) 1 1] 22)
 have h3:=(Blk.new ((W.alloc (.cells #[.int .i64 L] 2)).alloc (.cells #[.slice SA n sc,.slice (some ⟨W.heap.size,0,none⟩) 1 1] 35)) 3 #[.int .i64 0]).alloc (.cells #[.slice OA n oc,.slice (some ⟨W.heap.size+1+1,0,none⟩) 1 1] 22)
 have h4:=Blk.new (((W.alloc (.cells #[.int .i64 L] 2)).alloc (.cells #[.slice SA n sc,.slice (some ⟨W.heap.size,0,none⟩) 1 1] 35)).alloc (.cells #[.int .i64 0] 3)) 22 #[.slice OA n oc,.slice (some ⟨W.heap.size+1+1,0,none⟩) 1 1]
 simp only[World.size_alloc]at h2 h3 h4
 exact⟨_,rfl,pan_two (r:=⟨SA,n,sc,st⟩) (s:=⟨some ⟨W.heap.size,0,none⟩,1,1,[L]⟩) h2 (hs.later b4) (sl_one h1),pan_two (r:=⟨OA,n,oc,os⟩) (s:=⟨some ⟨W.heap.size+1+1,0,none⟩,1,1,[0]⟩) h4 (ho.later b4) (sl_one h3),b4⟩
theorem le_sum:∀{st:List Int},(∀x∈st,1<=x)->∀x∈st,x<=st.sum
 |[],_,x,hx=>by cases hx
 |y::st,h,x,hx=>by
  have h0:∀z∈st,1<=z:=λz hz=>h z (by simp[hz])
  have h1:=len_sum h0
  have h2:=h y (by simp)
  rw[List.sum_cons]
  rcases List.mem_cons.1 hx with rfl|hx
  ·omega
  ·have:=le_sum h0 x hx
   omega
theorem pan_ok{st:List Int}{p n:Nat}(SA B:Option Addr)(sc:Nat)(hl:st.length=n)(h5:n<=5)(hp:∀x∈st,1<=x)(hs:st.sum=(p:Int))(hb:1<=p/\p<=24):PanOk [⟨SA,n,sc,st⟩,⟨B,1,1,[(p:Int)]⟩]:=by
 have h1:1<=st.length:=by
  cases st with
  |nil=>simp at hs;omega
  |cons a l=>simp
 refine⟨by simp,by simp,λr hr=>?_,λr hr x hx=>?_,λr hr r' hr'=>?_⟩
 ·simp at hr
  rcases hr with rfl|rfl
  ·show 1<=st.length/\st.length<=5
   omega
  ·simp
 ·simp at hr
  rcases hr with rfl|rfl
  ·have h2:=hp x hx
   have h3:=le_sum hp x hx
   omega
  ·simp at hx
   subst hx
   omega
 ·simp at hr hr'
  rcases hr with rfl|rfl<;>rcases hr' with rfl|rfl<;>simp[hs]
theorem ords_ok{st:List Int}{p n:Nat}(SA B OA B':Option Addr)(sc oc:Nat):OrdsOk [⟨SA,n,sc,st⟩,⟨B,1,1,[(p:Int)]⟩] [⟨OA,n,oc,idL n⟩,⟨B',1,1,[0]⟩]:=by
 refine⟨rfl,λj r o hr ho=>?_⟩
 match j,hr,ho with
 |0,hr,ho=>
  simp at hr ho
  subst hr ho
  exact idL_ok n
 |1,hr,ho=>
  simp at hr ho
  subst hr ho
  exact idL_ok 1
 |j+2,hr,ho=>simp at hr
theorem seams_two{st:List Int}{p n:Nat}(SA B OA B':Option Addr)(sc oc:Nat)(hl:st.length=n):seamsTo [⟨SA,n,sc,st⟩,⟨B,1,1,[(p:Int)]⟩] [⟨OA,n,oc,idL n⟩,⟨B',1,1,[0]⟩] 2=[C.seamsF st,[]]:=by
 subst hl
 show [seamsL st (idL st.length) (st.length-1),[]]=_
 rw[seams_id]
structure BY(w W:World):Prop where
 bel:Below w.heap.size w W
theorem BY.later{w W W':World}(h:BY w W)(hb:Below W.heap.size W W'):BY w W':=⟨Below.later h.bel hb⟩
set_option maxRecDepth 100000 in
set_option maxHeartbeats 8000000 in
theorem seam_law(H5:Hid (∀W:World,Calls Tryz.prog 7 #[] W (λe W'=>e=.returned (.bool true)/\Gr W W')))(L:Int)(FA:Option Addr)(fn fc:Nat)(fs:List Int)(KA:Option Addr)(kc:Nat)(ks:List Kd)(w:World)(hfs:Sl 1 encI w w.heap.size FA fn fc fs)(hks:Sl 3 encK w w.heap.size KA ks.length kc ks):
 Calls Tryz.prog 3 #[.agg #[.int .i64 L,.slice FA fn fc],.slice KA ks.length kc] w λe w'=>e=.returned (.bool true)/\Below w.heap.size w w':=by
 have hB:=balloc (brefl w) (.cells #[.int .i64 L,.slice FA fn fc] 24)
 have HK0:=Lib.hid (show RK w (w.alloc (.cells #[.int .i64 L,.slice FA fn fc] 24)) L FA fn fc fs KA kc ks from⟨hB,Blk.new w _ _,hfs.later hB,hks.later hB⟩)
 clear hB hfs hks
 obtain⟨c0,c1,c2⟩:=HK0.out.cells
 by_cases hfn:(30:Int)<(fn:Int)
 case pos=>
  go_enter Tryz.func3,Tryz.ntmps3
  go_wp2_with fail
  refine(H5.out _).mono ?_
  rintro e we⟨rfl,hbe⟩
  have HBE:=Lib.hid (Below.later HK0.out.bel hbe)
  clear hbe
  go_wp2
  go_ret
  exact⟨rfl,HBE.out⟩
 case neg=>
 by_cases hkn:(10:Int)<(ks.length:Int)
 case pos=>
  go_enter Tryz.func3,Tryz.ntmps3
  go_wp2_with fail
  refine(H5.out _).mono ?_
  rintro e we⟨rfl,hbe⟩
  have HBE:=Lib.hid (Below.later HK0.out.bel hbe)
  clear hbe
  go_wp2
  go_ret
  exact⟨rfl,HBE.out⟩
 case neg=>
 have Hrib:=Lib.hid (λW h=>C.refRib_any L FA fn fc fs W h)
 by_cases hrb:C.ribE L fs=0
 case neg=>
  obtain⟨q,hq⟩:∃q,C.ribE L fs=q:=⟨_,rfl⟩
  rw[hq]at Hrib hrb
  have d1:(q != 0)=true:=by simpa using hrb
  clear hq
  go_enter Tryz.func3,Tryz.ntmps3
  go_wp2_with fail
  refine(Hrib.out _ HK0.out.sl).mono ?_
  rintro e w1⟨rfl,hb⟩
  have HK1:=Lib.hid (HK0.out.later hb)
  clear hb HK0 c0 c1 c2
  obtain⟨c0,c1,c2⟩:=HK1.out.cells
  go_wp2_with fail
  refine(H5.out _).mono ?_
  rintro e we⟨rfl,hbe⟩
  have HBE:=Lib.hid (Below.later HK1.out.bel hbe)
  clear hbe
  go_wp2
  go_ret
  exact⟨rfl,HBE.out⟩
 case pos=>
 rw[hrb]at Hrib
 have Hknd:=Lib.hid (λW h=>C.refKinds_any KA kc ks W h)
 by_cases hkd:C.kndE ks=0
 case neg=>
  obtain⟨q,hq⟩:∃q,C.kndE ks=q:=⟨_,rfl⟩
  rw[hq]at Hknd hkd
  have d1:(q != 0)=true:=by simpa using hkd
  clear hq
  go_enter Tryz.func3,Tryz.ntmps3
  go_wp2_with fail
  refine(Hrib.out _ HK0.out.sl).mono ?_
  rintro e w2⟨rfl,hb⟩
  have HK1:=Lib.hid (HK0.out.later hb)
  clear hb HK0 c0 c1 c2
  obtain⟨c0,c1,c2⟩:=HK1.out.cells
  go_wp2_with fail
  refine(Hknd.out _ HK1.out.ksl).mono ?_
  rintro e w3⟨rfl,hb⟩
  have HK2:=Lib.hid (HK1.out.later hb)
  clear hb HK1 c0 c1 c2
  obtain⟨c0,c1,c2⟩:=HK2.out.cells
  go_wp2_with fail
  refine(H5.out _).mono ?_
  rintro e we⟨rfl,hbe⟩
  have HBE:=Lib.hid (Below.later HK2.out.bel hbe)
  clear hbe
  go_wp2
  go_ret
  exact⟨rfl,HBE.out⟩
 case pos=>
 rw[hkd]at Hknd
 have hrk:C.rkE L fs ks=0:=by unfold C.rkE;rw[if_pos hrb,hkd]
 obtain⟨hL,_⟩:=C.ribE_zero hrb
 obtain⟨Ln,rfl⟩:∃n:Nat,L=n:=⟨L.toNat,by omega⟩
 have HLn:=Lib.hid (show 1<=Ln/\Ln<=24 by omega)
 have hko:=C.KOk.of hkd
 have Hrk:=Lib.hid hrk
 obtain⟨g1,g2⟩:=C.first_good hko (C.behind_from (L:=Ln) (F:=C.Fst fs Ln) hko) Ln 0 (by omega) (Nat.zero_le _)
 have hcf:=C.cuts_first (L:=Ln) (F:=C.Fst fs Ln) hko
 have Hcuts:=Lib.hid (λW h1 h2=>C.Cuts_ok Ln FA fn fc fs KA kc ks W h1 h2 Hrk.out)
 have Hrc:=Lib.hid (λG n c W h1 h2 h3=>C.refCuts_ok Ln FA fn fc fs KA kc ks G n c (C.firstAt Ln (C.Fst fs Ln) ks (C.behindAt Ln (C.Fst fs Ln) ks Ln) Ln 0) W h1 h2 h3 Hrk.out)
 rw[hcf]at Hrc
 obtain⟨l,hl⟩:∃l,C.firstAt Ln (C.Fst fs Ln) ks (C.behindAt Ln (C.Fst fs Ln) ks Ln) Ln 0=l:=⟨_,rfl⟩
 rw[hl]at g1 g2 Hcuts Hrc
 have hll:=C.GoodL.len hko g1
 have j1:¬((Ln:Int)<(l.length:Int)):=by omega
 have Hg1:=Lib.hid g1
 have Hg2:=Lib.hid g2
 have Hko:=Lib.hid hko
 have Hll:=Lib.hid (show l.length<=Ln by omega)
 obtain⟨z0,hz0⟩:∃z,C.behindAt Ln (C.Fst fs Ln) ks Ln 0=z:=⟨_,rfl⟩
 rw[hz0]at Hrc Hg2
 have Hz0:=Lib.hid hz0
 clear hz0 hl hll g1 g2 hcf hko hrk hL hkd hrb
 go_enter Tryz.func3,Tryz.ntmps3
 go_wp2_with fail
 refine(Hrib.out _ HK0.out.sl).mono ?_
 rintro e w4⟨rfl,hb⟩
 have HK1:=Lib.hid (HK0.out.later hb)
 clear hb HK0 c0 c1 c2
 obtain⟨c0,c1,c2⟩:=HK1.out.cells
 go_wp2_with fail
 refine(Hknd.out _ HK1.out.ksl).mono ?_
 rintro e w5⟨rfl,hb⟩
 have HK2:=Lib.hid (HK1.out.later hb)
 clear hb HK1 c0 c1 c2
 obtain⟨c0,c1,c2⟩:=HK2.out.cells
 clear Hrib Hknd
 go_wp2_with fail
 refine(Hcuts.out _ HK2.out.sl HK2.out.ksl).mono ?_
 rintro e w6⟨G,rfl,hb,hcs⟩
 have HK3:=Lib.hid (HK2.out.later hb)
 clear hb HK2 c0 c1 c2
 obtain⟨c0,c1,c2⟩:=HK3.out.cells
 have HC3:=Lib.hid hcs
 clear hcs Hcuts
 go_wp2_with fail
 refine(Hrc.out (some ⟨G,0,none⟩) l.length l.length _ HK3.out.sl HK3.out.ksl HC3.out).mono ?_
 rintro e w7⟨rfl,hb⟩
 have HK4:=Lib.hid (HK3.out.later hb)
 have HC4:=Lib.hid (HC3.out.later hb)
 clear hb HK3 HC3 c0 c1 c2
 obtain⟨c0,c1,c2⟩:=HK4.out.cells
 clear Hrc
 have hmk:∀W:World,(Instr.makeSlice 22 (.int .i64 (Ln:Int)) (.int .i64 (Ln:Int))).run Tryz.prog W=.ok (.slice (some ⟨W.heap.size,0,none⟩) Ln Ln) (W.alloc (.cells (numArr Ln (λ_=>0)) 3)):=λW=>make_ints Ln (by have:=HLn.out;omega) W
 have HW:=Lib.hid (show CW w7 (w7.alloc (.cells (numArr Ln (λ_=>0)) 3)) Ln (λ_=>0) (.slice none 0 0) []from⟨balloc (brefl _) _,Blk.new _ _ _,World.ownsRow_nil _ _ _ _⟩)
 have HP:=Lib.hid (C.Pl.start Hg1.out)
 go_wp2_with fail
 clear c0 c1 c2 hmk
 refine loop_n (λq a W=>a.defers=[]/\∃(i p:Nat)(v:Value)(st:List Int)(M:Nat->Int),i+q=l.length+1/\Hid (CW w7 W Ln M v st)/\Hid (C.Pl Ln (C.Fst fs Ln) ks l i p st M)/\Fits (none::some (.slice KA ks.length kc)::some (.pointer (some ⟨w.heap.size,0,none⟩))::none::none::some (.slice (some ⟨G,0,none⟩) l.length l.length)::none::some (.slice (some ⟨w7.heap.size,0,none⟩) Ln Ln)::some (v)::some (.slice none 0 0)::some (.int .i64 (p:Nat))::some (.int .i64 (i:Nat))::none::none::none::none::none::none::none::none::none::none::none::none::none::none::none::none::none::none::none::none::none::none::none::none::none::none::none::none::none::none::none::none::none::none::none::none::none::none::none::none::none::none::none::none::none::none::none::none::none::none::none::none::none::none::none::none::none::none::none::none::none::none::none::none::none::none::none::none::none::none::none::none::none::none::none::none::none::none::none::none::none::none::none::none::none::none::none::none::none::none::none::none::none::none::none::none::none::none::none::none::none::none::none::none::none::none::none::none::none::none::none::none::none::none::none::none::none::none::none::none::none::none::none::none::none::none::none::none::none::none::none::none::none::none::none::none::none::none::none::none::none::none::none::none::none::none::none::none::none::none::none::none::none::none::none::none::none::none::none::none::none::none::none::none::none::none::none::none::none::none::none::none::none::none::none::none::none::none::none::none::none::none::none::none::none::none::none::none::none::none::none::none::none::none::none::none::none::none::none::none::none::none::none::none::none::none::none::none::none::none::none::none::none::none::none::none::none::none::none::none::[]) a.tmps.toList) (l.length+1) ?_ ?_
 ·refine⟨rfl,0,0,_,_,_,by omega,HW,HP,?_⟩
  repeat (first|exact fits_nil|refine fits_none ?_|refine fits_some ?_)
 clear HW HP
 intro q a W hI K1 hK
 obtain⟨hds,i,p,v,st,M,hiq,HW,HP,hfit⟩:=hI
 obtain⟨f',hf'⟩:=fits_act hfit
 rw[hds]at hf'
 subst hf'
 clear hfit hds
 simp only[fillP,Nat.reduceAdd]
 obtain⟨c0,c1,c2⟩:=(HK4.out.later HW.out.bel).cells
 have Hiq:=Lib.hid hiq
 clear hiq
 by_cases hlt:i<l.length
 ·obtain⟨s,hs⟩:∃s,l[i]? =some s:=⟨_,List.getElem?_eq_getElem hlt⟩
  obtain⟨f,k,x,rfl,hx,g3,g4,g5,g6⟩:=HP.out.next Hko.out hs
  obtain⟨xw,hxw⟩:∃n:Nat,x.w=(n:Int):=⟨x.w.toNat,by omega⟩
  have hxt:x.w.toNat=xw:=by omega
  rw[hxt]at g5 g6
  rw[hxw]at g6
  have HP2:=Lib.hid g6
  have i1:(i:Int)<=(l.length:Int):=by omega
  have i2:(i:Int)<(l.length:Int):=by omega
  have i3:(0:Int)<=(i:Int):=by omega
  have hkl:=(List.getElem?_eq_some_iff.1 hx).1
  have i4:(k:Int)<(ks.length:Int):=by omega
  have i5:(0:Int)<=(k:Int):=by omega
  have i6:IntKind.i64.wrap ((f:Int)+(xw:Int))=(f:Int)+(xw:Int):=by have:=HLn.out;rw[IntKind.wrap_i64];omega
  have i7:IntKind.i64.wrap ((i:Int)+1)=(i:Int)+1:=by have:=HLn.out;have:=Hll.out;rw[IntKind.wrap_i64];omega
  obtain⟨G',o',s',hA,hGl,hsx,y0,y1⟩:=(HC4.out.later HW.out.bel).ltS (i:=i) hlt
  cases hA
  rw[hs]at hsx
  cases hsx
  rw[Nat.zero_add]at y0 y1
  obtain⟨kb,ko,x',rfl,hkb,hkx,z0,z1,z2⟩:=(HK4.out.later HW.out.bel).ksl.ltK (i:=k) hkl
  rw[hx]at hkx
  cases hkx
  rw[hxw]at z0
  have Hxw:=Lib.hid (show 1<=xw/\f+xw<=Ln/\p<=f by omega)
  clear g3 g4 g5 g6 hs hx hxt hxw z1 z2 hkl
  go_wp2_with fail
  refine dag 6 (by kernel_rfl) (by kernel_rfl) (.is ?_::.is ?_::.is ?_::.is ?_::.is ?_::.is ?_::[]) rfl ?sta ?oba
  case sta=>simp[Spec.ok]
  case oba=>
  intro env V hG
  obtain⟨hc,hf⟩:=bcell hG
  iterate 6 (refine obls_is ?_ ?_;unfold doesAt;go_simp;(try go_bits);(first|(refine⟨brefl _,?_⟩;rfl)|rfl);intro K hK;go_simp;refine hK _ ?_;clear hK K)
  refine obls_nil (λ_=>?_)
  have c0:=cell_later hG c0
  have c1:=cell_later hG c1
  have c2:=Nat.lt_of_lt_of_le c2 hG.size
  have hGl:=Nat.lt_of_lt_of_le hGl hG.size
  have hkb:=Nat.lt_of_lt_of_le hkb hG.size
  have y0:=cell_later hG y0
  have y1:=cell_later hG y1
  have z0:=cell_later hG z0
  have HW1:=Lib.hid (HW.out.later hG)
  clear hc hf hG HW
  go_wp2_with fail
  refine dag 22 (by kernel_rfl) (by kernel_rfl) (.is ?_::.is ?_::.is ?_::.is ?_::.is ?_::.is ?_::.is ?_::.is ?_::.is ?_::.is ?_::.is ?_::.is ?_::.is ?_::.is ?_::.is ?_::.is ?_::.is ?_::.is ?_::.is ?_::.is ?_::.is ?_::.is ?_::[]) rfl ?sta2 ?oba2
  case sta2=>simp[Spec.ok]
  case oba2=>
  intro env2 V2 hG
  obtain⟨hc,hf⟩:=bcell hG
  iterate 22 (refine obls_is ?_ ?_;unfold doesAt;go_simp;(try go_bits);(first|(refine⟨brefl _,?_⟩;rfl)|rfl);intro K hK;go_simp;refine hK _ ?_;clear hK K)
  refine obls_nil (λ_=>?_)
  have HW2:=Lib.hid (HW1.out.later hG)
  clear hc hf hG HW1 c0 c1 c2 y0 y1 z0
  go_wp2_with fail
  obtain⟨e2,he2⟩:∃e2:Int,(f:Int)+(xw:Int)=e2:=⟨_,rfl⟩
  rw[he2]
  have HE:=Lib.hid he2
  have Hpf:=Lib.hid (show p<=f/\f<=Ln from by have:=Hxw.out;omega)
  clear i6 he2
  refine loop_n (λq a W=>a.defers=[]/\∃(k:Nat),k+q=f/\p<=k/\Hid (CW w7 W Ln (C.wasteTo M p k) v st)/\Fits (none::some (.slice (some ⟨kb,ko,none⟩) ks.length kc)::some (.pointer (some ⟨w.heap.size,0,none⟩))::none::none::some (.slice (some ⟨G,0,none⟩) l.length l.length)::none::some (.slice (some ⟨w7.heap.size,0,none⟩) Ln Ln)::some (v)::some (.slice none 0 0)::some (.int .i64 (p:Nat))::some (.int .i64 (i:Nat))::some (.int .i64 (f:Nat))::some (.int .i64 e2)::some (.int .i64 (k:Nat))::none::none::none::none::none::none::none::none::none::none::none::none::none::none::none::none::none::none::none::none::none::none::none::none::none::none::none::none::none::none::none::none::none::none::none::none::none::none::none::none::none::none::none::none::none::none::none::none::none::none::none::none::none::none::none::none::none::none::none::none::none::none::none::none::none::none::none::none::none::none::none::none::none::none::none::none::none::none::none::none::none::none::none::none::none::none::none::none::none::none::none::none::none::none::none::none::none::none::none::none::none::none::none::none::none::none::none::none::none::none::none::none::none::none::none::none::none::none::none::none::none::none::none::none::none::none::none::none::none::none::none::none::none::none::none::none::none::none::none::none::none::none::none::none::none::none::none::none::none::none::none::none::none::none::none::none::none::none::none::none::none::none::none::none::none::none::none::none::none::none::none::none::none::none::none::none::none::none::none::none::none::none::none::none::none::none::none::none::none::none::none::none::none::none::none::none::none::none::none::none::none::none::none::none::none::none::none::none::none::none::none::none::none::none::none::none::none::[]) a.tmps.toList) (f-p) ?_ ?_
  ·refine⟨rfl,p,by have:=Hpf.out;omega,Nat.le_refl _,by rw[C.wasteTo_self];exact HW2,?_⟩
   repeat (first|exact fits_nil|refine fits_none ?_|refine fits_some ?_)
  clear HW2
  intro q2 a W3 hI K2 hK2
  obtain⟨hds,k,hkq,hpk,HW3,hfit⟩:=hI
  obtain⟨f2,hf2⟩:=fits_act hfit
  rw[hds]at hf2
  subst hf2
  clear hfit hds
  simp only[fillP,Nat.reduceAdd]
  by_cases hkf:k<f
  case pos=>
   have i1:(k:Int)<(f:Int):=by omega
   have i2:(0:Int)<=(k:Int):=by omega
   have i3:IntKind.i64.wrap ((k:Int)+1)=(k:Int)+1:=by have:=HLn.out;have:=Hpf.out;rw[IntKind.wrap_i64];omega
   have i4:(k:Int)<(Ln:Int):=by have:=Hpf.out;omega
   have y1:W3.cell? ⟨w7.heap.size,k,none⟩=some (.int .i64 (C.wasteTo M p k k)):=by rw[HW3.out.bw.cell,numArr_get (by omega)]
   have y2:=HW3.out.bw.frozen k
   have y3:=HW3.out.bw.lt
   have HW4:=Lib.hid (show CW w7 (W3.setCell ⟨w7.heap.size,k,none⟩ (.int .i64 1)) Ln (C.wasteTo M p (k+1)) v st from by have h:=HW3.out.set k 1;rw[C.wasteTo_succ M hpk]at h;exact h)
   clear HW3
   go_wp2
   refine hK2 _ _ (q2-1) (by omega) ⟨rfl,k+1,by omega,by omega,HW4,?_⟩
   repeat (first|exact fits_nil|refine fits_none ?_|refine fits_some ?_)
  case neg=>
  obtain rfl:k=f:=by omega
  have i1:¬((k:Int)<(k:Int)):=by omega
  clear hK2 hkf hkq
  have hle:=len_sum HP.out.str.pos
  have hsum:=HP.out.str.sum
  have hsl:st.length<=24:=by have:=HLn.out;have:=Hpf.out;omega
  have t1:(k:Int)<e2:=by have:=HE.out;have:=Hxw.out;omega
  have t2:IntKind.i64.wrap (e2-(k:Int))=(xw:Int):=by have:=HE.out;have:=Hxw.out;have:=HLn.out;rw[IntKind.wrap_i64];omega
  obtain⟨i0,hi0,hz0,hz1,hz2⟩:=info_parts info_long
  clear hle hsum HP
  by_cases hpk2:p<k
  ·have t3:(p:Int)<(k:Int):=by omega
   obtain⟨xa,hxa⟩:∃xa,(k:Int)-(p:Int)=xa:=⟨_,rfl⟩
   have t4:IntKind.i64.wrap ((k:Int)-(p:Int))=xa:=by rw[<-hxa];have:=HLn.out;have:=Hpf.out;rw[IntKind.wrap_i64];omega
   rw[moreS_yes hpk2,hxa]at HP2
   have hs2:(st++[xa]).length<=25:=by simp;omega
   clear hxa hpk2 hpk
   have HR1:=Lib.hid (HW3.out.later (balloc (brefl W3) (.cells #[.int .i64 xa] 2)))
   have zb:=HW3.out.bel.size
   clear HW3
   go_wp2_with (first
    |(at_builtin;refine wpList_append_own _ rfl _ _ 35 rfl w7.heap.size 2 i0 (.int .i64 0) 1 8 und_longs hi0 hz0 hz1 hz2 rfl (by decide) v st.length _ rfl HR1.out.own ⟨W3.heap.size,0,none⟩ 1 1 [.int .i64 xa] rfl rfl (one_new _ _ _) (by simp[Value.oneCell']) (by simp only[maxLen];omega) (by omega) (by simp;omega) ?_;intro v1 U1 hown' hgr _;have HU1:=Lib.hid (HR1.out.grown hgr hown');have HR2:=Lib.hid (HU1.out.later (balloc (brefl U1) (.cells #[.int .i64 (xw:Int)] 2)));clear hown' hgr zb;have zb:=HU1.out.bel.size)
    |(at_builtin;refine wpList_append_own _ rfl _ _ 35 rfl w7.heap.size 2 i0 (.int .i64 0) 1 8 und_longs hi0 hz0 hz1 hz2 rfl (by decide) v1 (st++[xa]).length _ rfl HR2.out.own ⟨U1.heap.size,0,none⟩ 1 1 [.int .i64 (xw:Int)] rfl rfl (one_new _ _ _) (by simp[Value.oneCell']) (by simp only[maxLen];omega) (by omega) (by simp;omega) ?_;intro v2 U2 hown' hgr _;have HU2:=Lib.hid (HR2.out.grown hgr hown');clear hown' hgr zb))
   refine hK _ _ (q-1) (by have:=Hiq.out;omega) ⟨rfl,i+1,k+xw,_,_,_,by have:=Hiq.out;omega,HU2,HP2,?_⟩
   rw[show((k+xw:Nat):Int)=e2 by have:=HE.out;omega]
   repeat (first|exact fits_nil|refine fits_none ?_|refine fits_some ?_)
  ·have t3:¬((p:Int)<(k:Int)):=by omega
   rw[moreS_no hpk2,List.append_nil]at HP2
   clear hpk2 hpk
   have HR1:=Lib.hid (HW3.out.later (balloc (brefl W3) (.cells #[.int .i64 (xw:Int)] 2)))
   have zb:=HW3.out.bel.size
   clear HW3
   go_wp2_with (at_builtin;refine wpList_append_own _ rfl _ _ 35 rfl w7.heap.size 2 i0 (.int .i64 0) 1 8 und_longs hi0 hz0 hz1 hz2 rfl (by decide) v st.length _ rfl HR1.out.own ⟨W3.heap.size,0,none⟩ 1 1 [.int .i64 (xw:Int)] rfl rfl (one_new _ _ _) (by simp[Value.oneCell']) (by simp only[maxLen];omega) (by omega) (by simp;omega) ?_;intro v1 U1 hown' hgr _;have HU1:=Lib.hid (HR1.out.grown hgr hown');clear hown' hgr zb HR1)
   refine hK _ _ (q-1) (by have:=Hiq.out;omega) ⟨rfl,i+1,k+xw,_,_,_,by have:=Hiq.out;omega,HU1,HP2,?_⟩
   rw[show((k+xw:Nat):Int)=e2 by have:=HE.out;omega]
   repeat (first|exact fits_nil|refine fits_none ?_|refine fits_some ?_)
 ·by_cases hie:i=l.length
  ·have HP2:=Lib.hid (HP.out.last hie)
   have i1:(i:Int)<=(l.length:Int):=by omega
   have i2:¬((i:Int)<(l.length:Int)):=by omega
   have i7:IntKind.i64.wrap ((i:Int)+1)=(i:Int)+1:=by have:=HLn.out;have:=Hll.out;rw[IntKind.wrap_i64];omega
   have Hpf:=Lib.hid (show p<=Ln/\Ln<=Ln from⟨HP.out.le,Nat.le_refl _⟩)
   clear hlt hie
   go_wp2_with fail
   refine dag 6 (by kernel_rfl) (by kernel_rfl) (.is ?_::.is ?_::.is ?_::.is ?_::.is ?_::.is ?_::[]) rfl ?sta ?oba
   case sta=>simp[Spec.ok]
   case oba=>
   intro env V hG
   obtain⟨hc,hf⟩:=bcell hG
   iterate 6 (refine obls_is ?_ ?_;unfold doesAt;go_simp;(try go_bits);(first|(refine⟨brefl _,?_⟩;rfl)|rfl);intro K hK;go_simp;refine hK _ ?_;clear hK K)
   refine obls_nil (λ_=>?_)
   have HW2:=Lib.hid (HW.out.later hG)
   clear hc hf hG HW c0 c1 c2
   go_wp2_with fail
   refine loop_n (λq a W=>a.defers=[]/\∃(k:Nat),k+q=Ln/\p<=k/\Hid (CW w7 W Ln (C.wasteTo M p k) v st)/\Fits (none::some (.slice KA ks.length kc)::some (.pointer (some ⟨w.heap.size,0,none⟩))::none::none::some (.slice (some ⟨G,0,none⟩) l.length l.length)::none::some (.slice (some ⟨w7.heap.size,0,none⟩) Ln Ln)::some (v)::some (.slice none 0 0)::some (.int .i64 (p:Nat))::some (.int .i64 (i:Nat))::some (.int .i64 (Ln:Nat))::some (.int .i64 (Ln:Nat))::some (.int .i64 (k:Nat))::none::none::none::none::none::none::none::none::none::none::none::none::none::none::none::none::none::none::none::none::none::none::none::none::none::none::none::none::none::none::none::none::none::none::none::none::none::none::none::none::none::none::none::none::none::none::none::none::none::none::none::none::none::none::none::none::none::none::none::none::none::none::none::none::none::none::none::none::none::none::none::none::none::none::none::none::none::none::none::none::none::none::none::none::none::none::none::none::none::none::none::none::none::none::none::none::none::none::none::none::none::none::none::none::none::none::none::none::none::none::none::none::none::none::none::none::none::none::none::none::none::none::none::none::none::none::none::none::none::none::none::none::none::none::none::none::none::none::none::none::none::none::none::none::none::none::none::none::none::none::none::none::none::none::none::none::none::none::none::none::none::none::none::none::none::none::none::none::none::none::none::none::none::none::none::none::none::none::none::none::none::none::none::none::none::none::none::none::none::none::none::none::none::none::none::none::none::none::none::none::none::none::none::none::none::none::none::none::none::none::none::none::none::none::none::none::none::[]) a.tmps.toList) (Ln-p) ?_ ?_
   ·refine⟨rfl,p,by have:=Hpf.out;omega,Nat.le_refl _,by rw[C.wasteTo_self];exact HW2,?_⟩
    repeat (first|exact fits_nil|refine fits_none ?_|refine fits_some ?_)
   clear HW2
   intro q2 a W3 hI K2 hK2
   obtain⟨hds,k,hkq,hpk,HW3,hfit⟩:=hI
   obtain⟨f2,hf2⟩:=fits_act hfit
   rw[hds]at hf2
   subst hf2
   clear hfit hds
   simp only[fillP,Nat.reduceAdd]
   by_cases hkf:k<Ln
   case pos=>
    have i1:(k:Int)<(Ln:Int):=by omega
    have i2:(0:Int)<=(k:Int):=by omega
    have i3:IntKind.i64.wrap ((k:Int)+1)=(k:Int)+1:=by have:=HLn.out;have:=Hpf.out;rw[IntKind.wrap_i64];omega
    have i4:(k:Int)<(Ln:Int):=by have:=Hpf.out;omega
    have y1:W3.cell? ⟨w7.heap.size,k,none⟩=some (.int .i64 (C.wasteTo M p k k)):=by rw[HW3.out.bw.cell,numArr_get (by omega)]
    have y2:=HW3.out.bw.frozen k
    have y3:=HW3.out.bw.lt
    have HW4:=Lib.hid (show CW w7 (W3.setCell ⟨w7.heap.size,k,none⟩ (.int .i64 1)) Ln (C.wasteTo M p (k+1)) v st from by have h:=HW3.out.set k 1;rw[C.wasteTo_succ M hpk]at h;exact h)
    clear HW3
    go_wp2
    refine hK2 _ _ (q2-1) (by omega) ⟨rfl,k+1,by omega,by omega,HW4,?_⟩
    repeat (first|exact fits_nil|refine fits_none ?_|refine fits_some ?_)
   case neg=>
   obtain rfl:k=Ln:=by omega
   have i1:¬((k:Int)<(k:Int)):=by omega
   clear hK2 hkf hkq
   have hle:=len_sum HP.out.str.pos
   have hsum:=HP.out.str.sum
   have hsl:k<=24/\st.length<=24:=by have:=HLn.out;have:=Hpf.out;omega
   obtain⟨i0,hi0,hz0,hz1,hz2⟩:=info_parts info_long
   have t1:¬((k:Int)<(k:Int)):=by omega
   clear hle hsum HP
   by_cases hpk2:p<k
   ·have t3:(p:Int)<(k:Int):=by omega
    obtain⟨xa,hxa⟩:∃xa,(k:Int)-(p:Int)=xa:=⟨_,rfl⟩
    have t4:IntKind.i64.wrap ((k:Int)-(p:Int))=xa:=by rw[<-hxa];rw[IntKind.wrap_i64];omega
    rw[moreS_yes hpk2,hxa]at HP2
    clear hxa hpk2 hpk
    have HR1:=Lib.hid (HW3.out.later (balloc (brefl W3) (.cells #[.int .i64 xa] 2)))
    have zb:=HW3.out.bel.size
    clear HW3
    go_wp2_with (at_builtin;refine wpList_append_own _ rfl _ _ 35 rfl w7.heap.size 2 i0 (.int .i64 0) 1 8 und_longs hi0 hz0 hz1 hz2 rfl (by decide) v st.length _ rfl HR1.out.own ⟨W3.heap.size,0,none⟩ 1 1 [.int .i64 xa] rfl rfl (one_new _ _ _) (by simp[Value.oneCell']) (by simp only[maxLen];omega) (by omega) (by simp;omega) ?_;intro v1 U1 hown' hgr _;have HU1:=Lib.hid (HR1.out.grown hgr hown');clear hown' hgr zb HR1)
    refine hK _ _ (q-1) (by have:=Hiq.out;omega) ⟨rfl,i+1,k,_,_,_,by have:=Hiq.out;omega,HU1,HP2,?_⟩
    repeat (first|exact fits_nil|refine fits_none ?_|refine fits_some ?_)
   ·have t3:¬((p:Int)<(k:Int)):=by omega
    rw[moreS_no hpk2,List.append_nil]at HP2
    clear hpk2 hpk
    go_wp2_with fail
    refine hK _ _ (q-1) (by have:=Hiq.out;omega) ⟨rfl,i+1,k,_,_,_,by have:=Hiq.out;omega,HW3,HP2,?_⟩
    repeat (first|exact fits_nil|refine fits_none ?_|refine fits_some ?_)
  ·obtain rfl:i=l.length+1:=by have:=Hiq.out;omega
   have i1:¬(((l.length+1:Nat):Int)<=(l.length:Int)):=by omega
   have hpl:=HP.out.done rfl
   subst hpl
   have hsum:=HP.out.str.sum
   have hpos:=HP.out.str.pos
   clear hK hlt hie Hiq
   by_cases h5:(5:Int)<(st.length:Int)
   case pos=>
    have Hbl:=Lib.hid HW.out.bel
    obtain⟨SA,sc,rfl,hsl⟩:=own_slI HW.out.own rfl
    clear HW hsl
    have HK5:=Lib.hid (HK4.out.later (Hbl.out))
    have HC5:=Lib.hid (HC4.out.later (Hbl.out))
    clear HK4 HC4 c0 c1 c2
    obtain⟨c0,c1,c2⟩:=HK5.out.cells
    go_wp2_with fail
    refine(H5.out _).mono ?_
    rintro e we⟨rfl,hbe⟩
    have HBE:=Lib.hid (Below.later HK5.out.bel hbe)
    clear hbe
    go_wp2
    go_ret
    exact⟨rfl,HBE.out⟩
   case neg=>
   have hn5:st.length<=5:=by omega
   have Hbl:=Lib.hid HW.out.bel
   obtain⟨SA,sc,rfl,hsl⟩:=own_slI HW.out.own rfl
   have Hst:=Lib.hid hsl
   have Hws:=Lib.hid HW.out.bw
   have Hsum:=Lib.hid hsum
   have Hpos:=Lib.hid hpos
   obtain⟨n,hn⟩:∃n,st.length=n:=⟨_,rfl⟩
   have Hn:=Lib.hid hn
   rw[hn]at Hst h5 hn5 ⊢
   clear HW hsl hsum hpos hn i1
   have HK5:=Lib.hid (HK4.out.later (Hbl.out))
   have HC5:=Lib.hid (HC4.out.later (Hbl.out))
   clear HK4 HC4 c0 c1 c2
   obtain⟨c0,c1,c2⟩:=HK5.out.cells
   have i1:¬(((l.length+1:Nat):Int)<=(l.length:Int)):=by omega
   have HO:=Lib.hid (show OW W W (.slice none 0 0) (idL 0)from⟨brefl W,World.ownsRow_nil _ _ _ _⟩)
   go_wp2_with fail
   refine loop_n (λq a W2=>a.defers=[]/\∃(i:Nat)(v:Value),i+q=n/\Hid (OW W W2 v (idL i))/\Fits (none::some (.slice KA ks.length kc)::some (.pointer (some ⟨w.heap.size,0,none⟩))::none::none::none::none::some (.slice (some ⟨w7.heap.size,0,none⟩) p p)::some (.slice SA n sc)::some (v)::none::none::none::none::none::some (.int .i64 (i:Nat))::none::none::none::none::none::none::none::none::none::none::none::none::none::none::none::none::none::none::none::none::none::none::none::none::none::none::none::none::none::none::none::none::none::none::none::none::none::none::none::none::none::none::none::none::none::none::none::none::none::none::none::none::none::none::none::none::none::none::none::none::none::none::none::none::none::none::none::none::none::none::none::none::none::none::none::none::none::none::none::none::none::none::none::none::none::none::none::none::none::none::none::none::none::none::none::none::none::none::none::none::none::none::none::none::none::none::none::none::none::none::none::none::none::none::none::none::none::none::none::none::none::none::none::none::none::none::none::none::none::none::none::none::none::none::none::none::none::none::none::none::none::none::none::none::none::none::none::none::none::none::none::none::none::none::none::none::none::none::none::none::none::none::none::none::none::none::none::none::none::none::none::none::none::none::none::none::none::none::none::none::none::none::none::none::none::none::none::none::none::none::none::none::none::none::none::none::none::none::none::none::none::none::none::none::none::none::none::none::none::none::none::none::none::none::none::none::[]) a.tmps.toList) n ?_ ?_
   ·refine⟨rfl,0,_,by omega,HO,?_⟩
    repeat (first|exact fits_nil|refine fits_none ?_|refine fits_some ?_)
   clear HO i1
   intro q2 a W2 hI K2 hK
   obtain⟨hds,i,v,hiq,HO,hfit⟩:=hI
   obtain⟨f2,hf2⟩:=fits_act hfit
   rw[hds]at hf2
   subst hf2
   clear hfit hds
   simp only[fillP,Nat.reduceAdd]
   by_cases hlt:i<n
   case pos=>
    have i1:(i:Int)<(n:Int):=by omega
    have i3:IntKind.i64.wrap ((i:Int)+1)=(i:Int)+1:=by rw[IntKind.wrap_i64];omega
    obtain⟨i0,hi0,hz0,hz1,hz2⟩:=info_parts info_int
    have hol:=idL_len i
    have HR1:=Lib.hid (HO.out.later (balloc (brefl W2) (.cells #[.int .i64 (i:Int)] 3)))
    have zb:=HO.out.bel.size
    have Hiq:=Lib.hid hiq
    have Hsu:=Lib.hid (idL_succ i)
    obtain⟨os,hos⟩:∃os,idL i=os:=⟨_,rfl⟩
    rw[hos]at HR1 hol Hsu
    clear HO hos hiq
    go_wp2_with (at_builtin;refine wpList_append_own _ rfl _ _ 22 rfl W.heap.size 3 i0 (.int .i64 0) 1 8 und_ints hi0 hz0 hz1 hz2 rfl (by decide) v os.length _ rfl HR1.out.own ⟨W2.heap.size,0,none⟩ 1 1 [.int .i64 (i:Int)] rfl rfl (one_new _ _ _) (by simp[Value.oneCell']) (by simp only[maxLen];omega) (by omega) (by simp;omega) ?_;intro v1 U1 hown' hgr _;have HU1:=Lib.hid (HR1.out.grown hgr hown');clear hown' hgr zb)
    refine hK _ _ (q2-1) (by have:=Hiq.out;omega) ⟨rfl,i+1,_,by have:=Hiq.out;omega,by rw[Hsu.out];exact HU1,?_⟩
    repeat (first|exact fits_nil|refine fits_none ?_|refine fits_some ?_)
   case neg=>
   obtain rfl:i=n:=by omega
   have i1:¬((i:Int)<(i:Int)):=by omega
   have Hbl:=Lib.hid HO.out.bel
   have Hbl2:=Hbl
   obtain⟨OA,oc,rfl,hsl⟩:=own_slI HO.out.own rfl
   rw[idL_len]at hsl ⊢
   obtain⟨X,hX,hp1,hp2,hbX⟩:=pans W2 SA i sc st OA oc (idL i) (p:Int) (Hst.out.later Hbl.out) hsl
   have HP1:=Lib.hid hp1
   have HP2:=Lib.hid hp2
   have HBX:=Lib.hid hbX
   clear HO hsl hK hlt hiq hp1 hp2 hbX
   have HK6:=Lib.hid (HK5.out.later (Hbl.out))
   have HC6:=Lib.hid (HC5.out.later (Hbl.out))
   clear HK5 HC5 c0 c1 c2
   obtain⟨c0,c1,c2⟩:=HK6.out.cells
   go_wp2_with fail
   rw[<-hX]
   have hn:=Hn.out
   refine(Seams_ok _ 2 2 _ _ 2 2 _ _ HP1.out (pan_ok SA _ sc Hn.out hn5 Hpos.out Hsum.out HLn.out) HP2.out (ords_ok SA _ OA _ sc oc)).mono ?_
   rintro e wz⟨A3,c3,L3,rfl,hb,hpan,hmap⟩
   have hmap:L3.map (·.xs)=[C.seamsF st,[]]:=hmap.trans (seams_two SA _ OA _ sc oc Hn.out)
   have hL3:L3.length=2:=by have h:=congrArg List.length hmap;simpa using h
   obtain⟨q0,q1,rfl⟩:∃q0 q1,L3=[q0,q1]:=by
    match L3,hL3 with
    |[q0,q1],_=>exact⟨q0,q1,rfl⟩
   simp only[List.map_cons,List.map_nil,List.cons.injEq,and_true]at hmap
   have hq0:=hpan.rows q0 (by simp)
   have hq1:=hpan.rows q1 (by simp)
   have hl0:=hq0.len
   have hl1:=hq1.len
   rw[hmap.1]at hq0 hl0
   rw[hmap.2]at hl1
   have hsf:(C.seamsF st).length=st.length-1:=by simp[C.seamsF]
   have hi1:1<=i:=by
    have h1:=Hsum.out
    have h2:=HLn.out
    rw[<-hn]
    cases st with
    |nil=>simp at h1;omega
    |cons a l=>simp
   have Hlb:=Lib.hid (Below.later HBX.out hb)
   obtain⟨ab,ao,r0,rfl,hab,hr0,y0⟩:=ltLw hpan.sl (show 0<2 by omega)
   obtain⟨ab',ao',r1,hA,_,hr1,y1⟩:=ltLw hpan.sl (show 1<2 by omega)
   cases hA
   simp at hr0 hr1
   subst hr0 hr1
   rw[show q1.n=0 from hl1.symm]at y1
   rw[Nat.add_zero]at y0
   have t1:IntKind.i64.wrap ((i:Int)-1)=(q0.n:Int):=by rw[IntKind.wrap_i64];omega
   have Hq0:=Lib.hid hq0
   clear hpan hmap hL3 hq0 hq1 hl0 hl1 hsf hX HP1 HP2 HBX hb
   have HK7:=Lib.hid (HK6.out.later (Hlb.out))
   have HC7:=Lib.hid (HC6.out.later (Hlb.out))
   clear HK6 HC6 c0 c1 c2
   obtain⟨c0,c1,c2⟩:=HK7.out.cells
   have HQ7:=Hq0
   clear Hq0
   go_wp2_with fail
   have Hy0:=Lib.hid y0
   have Hab:=Lib.hid hab
   have Hwc:=Lib.hid (show∀V,Below wz.heap.size wz V->∀m,m+1<p->V.cell? ⟨w7.heap.size,m,none⟩=some (.int .i64 (M m))/\V.cell? ⟨w7.heap.size,m+1,none⟩=some (.int .i64 (M (m+1)))fromλV hV m hm=>by
    have hb:=((Hws.out.later Hbl2.out).later Hlb.out).later hV
    rw[hb.cell,hb.cell,numArr_get (by omega),numArr_get (by omega)]
    exact⟨rfl,rfl⟩)
   clear y0 y1 t1 hab
   refine loop_n (λq a W9=>a.defers=[]/\∃(k:Nat),k+q=p+1/\1<=k/\Hid (Below wz.heap.size wz W9)/\Fits (none::some (.slice KA ks.length kc)::some (.pointer (some ⟨w.heap.size,0,none⟩))::none::none::none::none::some (.slice (some ⟨w7.heap.size,0,none⟩) p p)::none::none::none::none::none::none::none::none::some (.slice (some ⟨ab,ao,none⟩) 2 c3)::some (.int .i64 (k:Nat))::none::none::none::none::none::none::none::none::none::none::none::none::none::none::none::none::none::none::none::none::none::none::none::none::none::none::none::none::none::none::none::none::none::none::none::none::none::none::none::none::none::none::none::none::none::none::none::none::none::none::none::none::none::none::none::none::none::none::none::none::none::none::none::none::none::none::none::none::none::none::none::none::none::none::none::none::none::none::none::none::none::none::none::none::none::none::none::none::none::none::none::none::none::none::none::none::none::none::none::none::none::none::none::none::none::none::none::none::none::none::none::none::none::none::none::none::none::none::none::none::none::none::none::none::none::none::none::none::none::none::none::none::none::none::none::none::none::none::none::none::none::none::none::none::none::none::none::none::none::none::none::none::none::none::none::none::none::none::none::none::none::none::none::none::none::none::none::none::none::none::none::none::none::none::none::none::none::none::none::none::none::none::none::none::none::none::none::none::none::none::none::none::none::none::none::none::none::none::none::none::none::none::none::none::none::none::none::none::none::none::none::none::none::none::[]) a.tmps.toList) p ?_ ?_
   ·refine⟨rfl,1,by have:=HLn.out;omega,Nat.le_refl _,Lib.hid (brefl wz),?_⟩
    repeat (first|exact fits_nil|refine fits_none ?_|refine fits_some ?_)
   intro q3 a W9 hI K3 hK
   obtain⟨hds,k,hkq,hk1,HB9,hfit⟩:=hI
   obtain⟨f3,hf3⟩:=fits_act hfit
   rw[hds]at hf3
   subst hf3
   clear hfit hds
   simp only[fillP,Nat.reduceAdd]
   have HK8:=Lib.hid (HK7.out.later (HB9.out))
   have HC8:=Lib.hid (HC7.out.later (HB9.out))
   have HQ8:=Lib.hid (HQ7.out.later (HB9.out))
   clear HK7 HC7 HQ7 c0 c1 c2
   obtain⟨c0,c1,c2⟩:=HK8.out.cells
   have HY8:=Lib.hid (BY.mk HB9.out)
   clear HB9
   by_cases hlt:k<p
   case pos=>
    obtain⟨g1,g2,g3⟩:=HP.out.place Hko.out (C.ahead_upto Hko.out) (C.behind_from Hko.out) Hg1.out (Hg2.out.trans Hz0.out.symm) (p:=k) (by omega) hlt
    have Hpt:=Lib.hid (λW h1 h2=>C.Parted_ok p FA fn fc fs KA kc ks (k:Int) W h1 h2 Hrk.out)
    obtain⟨r1,hr1⟩:∃r,(C.partedP p (C.Fst fs p) ks (C.aheadAt p (C.Fst fs p) ks p) (C.behindAt p (C.Fst fs p) ks p) (k:Int)).1=r:=⟨_,rfl⟩
    rw[hr1]at g2 g3
    rw[hr1,g1]at Hpt
    obtain⟨ow,how⟩:∃b,(C.seamsF st).any (λx=>x==(k:Int))=b:=⟨_,rfl⟩
    rw[how]at g2 g3
    have Hlong:=Lib.hid (λW h=>HasLong_any q0.A q0.n q0.c (C.seamsF st) (k:Int) W h)
    rw[how]at Hlong
    have i1:(k:Int)<(p:Int):=by omega
    have i3:IntKind.i64.wrap ((k:Int)+1)=(k:Int)+1:=by have:=HLn.out;rw[IntKind.wrap_i64];omega
    obtain⟨m,rfl⟩:∃m,k=m+1:=⟨k-1,by omega⟩
    have i4:IntKind.i64.wrap (((m+1:Nat):Int)-1)=(m:Int):=by have:=HLn.out;rw[IntKind.wrap_i64];omega
    have i5:(m:Int)<(p:Int):=by omega
    have i6:(0:Int)<=(m:Int):=by omega
    rw[Nat.add_sub_cancel]at g3
    have Hkq:=Lib.hid (show m+1+q3=p+1/\m+1<p from⟨hkq,hlt⟩)
    have Hg2':=Lib.hid g2
    have Hg3':=Lib.hid g3
    clear g1 g2 g3 hr1 how hkq hlt hk1
    go_wp2_with fail
    refine(Hpt.out _ HK8.out.sl HK8.out.ksl).mono ?_
    rintro e w8⟨rfl,hb⟩
    have HK9:=Lib.hid (HK8.out.later hb)
    have HC9:=Lib.hid (HC8.out.later hb)
    have HQ9:=Lib.hid (HQ8.out.later hb)
    have HY9:=Lib.hid (HY8.out.later hb)
    clear hb HK8 HC8 HQ8 HY8 c0 c1 c2
    obtain⟨c0,c1,c2⟩:=HK9.out.cells
    have y0:=cell_later HY9.out.bel Hy0.out
    have y5:=Nat.lt_of_lt_of_le Hab.out HY9.out.bel.size
    go_wp2_with fail
    refine(Hlong.out _ HQ9.out).mono ?_
    rintro e w9⟨rfl,hb⟩
    have HK10:=Lib.hid (HK9.out.later hb)
    have HC10:=Lib.hid (HC9.out.later hb)
    have HQ10:=Lib.hid (HQ9.out.later hb)
    have HY10:=Lib.hid (HY9.out.later hb)
    clear hb HK9 HC9 HQ9 HY9 c0 c1 c2
    obtain⟨c0,c1,c2⟩:=HK10.out.cells
    clear y0 y5
    obtain⟨y1,y2⟩:=Hwc.out _ HY10.out.bel m (by have:=Hkq.out;omega)
    have i7:IntKind.i64.wrap ((m:Int)+1-1)=(m:Int):=by have:=HLn.out;have:=Hkq.out;rw[IntKind.wrap_i64];omega
    have i8:IntKind.i64.wrap (m:Int)=(m:Int):=by have:=HLn.out;have:=Hkq.out;rw[IntKind.wrap_i64];omega
    have i9:IntKind.i64.wrap ((m:Int)+1+1)=(m:Int)+1+1:=by have:=HLn.out;have:=Hkq.out;rw[IntKind.wrap_i64];omega
    have i10:(m:Int)+1<(p:Int):=by have:=Hkq.out;omega
    have i11:(0:Int)<=(m:Int)+1:=by omega
    have Hby:=Lib.hid HY10.out.bel
    cases ow with
    |true=>
     have d1:(r1==0)=false:=by have:=Hg2'.out rfl;simpa using this
     clear Hg2' Hg3'
     cases d2:(r1==2)with
     |true=>
      go_wp2_with fail
      refine hK _ _ (q3-1) (by have:=Hkq.out;omega) ⟨rfl,m+1+1,by have:=Hkq.out;omega,by omega,Hby,?_⟩
      repeat (first|exact fits_nil|refine fits_none ?_|refine fits_some ?_)
     |false=>
      go_wp2_with fail
      refine hK _ _ (q3-1) (by have:=Hkq.out;omega) ⟨rfl,m+1+1,by have:=Hkq.out;omega,by omega,Hby,?_⟩
      repeat (first|exact fits_nil|refine fits_none ?_|refine fits_some ?_)
    |false=>
     cases d2:(r1==2)with
     |true=>
      obtain⟨m1,m2⟩:=Hg3'.out (by simpa using d2) rfl
      rw[m1]at y1
      rw[m2]at y2
      clear Hg2' Hg3' m1 m2
      go_wp2_with fail
      refine hK _ _ (q3-1) (by have:=Hkq.out;omega) ⟨rfl,m+1+1,by have:=Hkq.out;omega,by omega,Hby,?_⟩
      repeat (first|exact fits_nil|refine fits_none ?_|refine fits_some ?_)
     |false=>
      clear Hg2' Hg3'
      go_wp2_with fail
      refine hK _ _ (q3-1) (by have:=Hkq.out;omega) ⟨rfl,m+1+1,by have:=Hkq.out;omega,by omega,Hby,?_⟩
      repeat (first|exact fits_nil|refine fits_none ?_|refine fits_some ?_)
   case neg=>
   have i1:¬((k:Int)<(p:Int)):=by omega
   go_wp2_with fail
   refine(H5.out _).mono ?_
   rintro e we⟨rfl,hbe⟩
   have HBE:=Lib.hid (Below.later HK8.out.bel hbe)
   clear hbe
   go_wp2
   go_ret
   exact⟨rfl,HBE.out⟩
end Go.Proofs.YtlclnbhjjdcnkaaGreatDoor.Sm
