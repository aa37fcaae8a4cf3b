/- Peel: Span, walked. -/
import Derived.Test.YtednconodjeniaaGreatPlR
import Derived.Test.YtednconodjeniaaGreatTSWorks
namespace Go.Proofs.YtednconodjeniaaGreat.P
open Go.RowKit Go.Shelf
theorem encR_len(xs:List Rg):(xs.flatMap encR).length=xs.length*2:=by
 induction xs with
 |nil=>rfl
 |cons x xs ih=>simp only[List.flatMap_cons,List.length_append,ih,List.length_cons];simp[encR];omega
theorem encR_get{xs:List Rg}{i:Nat}{x:Rg}(hx:xs[i]? =some x) {j:Nat} {u:Value} (hu:(encR x)[j]? =some u):(xs.flatMap encR)[i*2+j]? =some u:=by
 induction xs generalizing i with
 |nil=>cases hx
 |cons y xs ih=>
  have hj:j<2:=(List.getElem?_eq_some_iff.1 hu).1
  cases i with
  |zero=>
   simp only[List.getElem?_cons_zero,Option.some.injEq]at hx
   subst hx
   simp only[List.flatMap_cons,Nat.zero_mul,Nat.zero_add]
   rw[List.getElem?_append_left hj]
   exact hu
  |succ i=>
   simp only[List.flatMap_cons]
   rw[List.getElem?_append_right (by simp[encR];omega)]
   rw[show(i+1)*2+j-(encR y).length=i*2+j from by simp[encR];omega]
   exact ih (by simpa using hx)
def flatF(es:List Rg)(k:Nat):Int:=if k % 2=0 then(eAt es (k / 2)).lo else(eAt es (k / 2)).hi
theorem flat_encR(es:List Rg):(es.flatMap encR).toArray=numArr (es.length*2) (flatF es):=by
 unfold numArr
 congr 1
 apply List.ext_getElem?
 intro k
 by_cases hk:k<es.length*2
 ·have hx:es[k / 2]? =some es[k / 2]:=List.getElem?_eq_getElem (by omega)
  have e:k / 2*2+k % 2=k:=by omega
  rcases(show k % 2=0\/k % 2=1 by omega)with h|h
  ·have:=encR_get hx (j:=0) rfl
   rw[show k / 2*2+0=k by omega]at this
   rw[this]
   simp[hk,flatF,h,eAt,hx]
  ·have:=encR_get hx (j:=1) rfl
   rw[show k / 2*2+1=k by omega]at this
   rw[this]
   simp[hk,flatF,h,eAt,hx]
 ·rw[List.getElem?_eq_none (by rw[encR_len];omega),List.getElem?_eq_none (by simp;omega)]
theorem numArr_congr{n:Nat}{F G:Nat->Int}(h:∀k,k<n->F k=G k):numArr n F=numArr n G:=by
 unfold numArr
 congr 1
 exact List.map_congr_left λk hk=>by rw[h k (List.mem_range.1 hk)]
def innerF(ls hs:List Rg)(i k:Nat):Int:=if k / 2<i then(if k % 2=0 then(eAt ls (k / 2)).hi else(eAt hs (k / 2)).lo)else flatF ls k
def outerF(ls hs:List Rg)(i k:Nat):Int:=if k / 2<i then(if k % 2=0 then(eAt ls (k / 2)).lo else(eAt hs (k / 2)).hi)else flatF ls k
theorem innerF_succ(ls hs:List Rg)(i:Nat):updN (updN (innerF ls hs i) (i*2) (eAt ls i).hi) (i*2+1) (eAt hs i).lo=innerF ls hs (i+1):=by
 funext k
 unfold updN innerF
 by_cases h1:k=i*2+1
 ·subst h1
  have e:(i*2+1) / 2=i:=by omega
  rw[if_pos rfl,if_pos (by omega),if_neg (by omega),e]
 ·rw[if_neg h1]
  by_cases h2:k=i*2
  ·subst h2
   have e:(i*2) / 2=i:=by omega
   rw[if_pos rfl,if_pos (by omega),if_pos (by omega),e]
  ·rw[if_neg h2]
   by_cases h3:k / 2<i
   ·simp[h3,show k / 2<i+1 by omega]
   ·simp[h3,show¬k / 2<i+1 by omega]
theorem outerF_succ(ls hs:List Rg)(i:Nat):updN (outerF ls hs i) (i*2+1) (eAt hs i).hi=outerF ls hs (i+1):=by
 funext k
 unfold updN outerF
 by_cases h1:k=i*2+1
 ·subst h1
  have e:(i*2+1) / 2=i:=by omega
  rw[if_pos rfl,if_pos (by omega),if_neg (by omega),e]
 ·rw[if_neg h1]
  by_cases h2:k=i*2
  ·subst h2
   have e:(i*2) / 2=i:=by omega
   rw[if_neg (by omega),if_pos (by omega),if_pos (by omega)]
   unfold flatF
   rw[if_pos (by omega)]
  ·by_cases h3:k / 2<i
   ·simp[h3,show k / 2<i+1 by omega]
   ·simp[h3,show¬k / 2<i+1 by omega]
def innerL(n:Nat)(ls hs:List Rg):List Rg:=(List.range n).map λi=>⟨(eAt ls i).hi,(eAt hs i).lo⟩
def outerL(n:Nat)(ls hs:List Rg):List Rg:=(List.range n).map λi=>⟨(eAt ls i).lo,(eAt hs i).hi⟩
theorem inner_eq(n:Nat)(ls hs:List Rg):numArr (n*2) (innerF ls hs n)=((innerL n ls hs).flatMap encR).toArray:=by
 rw[flat_encR,show(innerL n ls hs).length=n by simp[innerL]]
 refine numArr_congr λk hk=>?_
 have hx:eAt (innerL n ls hs) (k / 2)=⟨(eAt ls (k / 2)).hi,(eAt hs (k / 2)).lo⟩:=by simp[eAt,innerL,show k / 2<n by omega]
 unfold innerF flatF
 rw[if_pos (by omega),hx]
theorem outer_eq(n:Nat)(ls hs:List Rg):numArr (n*2) (outerF ls hs n)=((outerL n ls hs).flatMap encR).toArray:=by
 rw[flat_encR,show(outerL n ls hs).length=n by simp[outerL]]
 refine numArr_congr λk hk=>?_
 have hx:eAt (outerL n ls hs) (k / 2)=⟨(eAt ls (k / 2)).lo,(eAt hs (k / 2)).hi⟩:=by simp[eAt,outerL,show k / 2<n by omega]
 unfold outerF flatF
 rw[if_pos (by omega),hx]
theorem sl_rgs{W:World}{B n:Nat}{t:TypeId}{es:List Rg}(hb:Blk W B t (es.flatMap encR).toArray)(hl:es.length=n)(hn:n<=1000):Sl 2 encR W W.heap.size (some ⟨B,0,none⟩) n n es:=
 ⟨hl,Nat.le_refl _,by omega,λ_=>⟨B,0,rfl,hb.lt,λi x hx j u hu=>by
   rw[hb.cell,List.getElem?_toArray,Nat.zero_add]
   exact encR_get hx hu⟩⟩
theorem logOk_map{n:Nat}{xs:List Int}{es:List Rg}(h:LogOk n xs es)(F:Nat->Rg)(hF:∀i,i<n->-1000<=(F i).lo/\(F i).lo<=(F i).hi/\(F i).hi<=1000):LogOk n xs ((List.range n).map F):=
 ⟨h.n2,h.n8,h.xl,by simp,h.at_,h.up,λi e hi=>by
   have hin:i<n:=by simpa using(List.getElem?_eq_some_iff.1 hi).1
   simp[hin]at hi
   subst hi
   exact hF i hin⟩
theorem RoughOk.at{n:Nat}{xs:List Int}{ls hs:List Rg}(h:RoughOk n xs ls hs){i:Nat}(hi:i<n):(-1000<=(eAt ls i).lo/\(eAt ls i).lo<=(eAt ls i).hi/\(eAt ls i).hi<=1000)/\(-1000<=(eAt hs i).lo/\(eAt hs i).lo<=(eAt hs i).hi/\(eAt hs i).hi<=1000)/\(eAt ls i).hi<=(eAt hs i).lo:=by
 have hl:=h.lo.el
 have hh:=h.hi.el
 refine⟨h.lo.e hi,h.hi.e hi,?_⟩
 unfold eAt
 rw[List.getD_eq_getElem?_getD,List.getD_eq_getElem?_getD,List.getElem?_eq_getElem (by omega),List.getElem?_eq_getElem (by omega)]
 exact h.le i _ _ (List.getElem?_eq_getElem (by omega)) (List.getElem?_eq_getElem (by omega))
theorem inner_ok{n:Nat}{xs:List Int}{ls hs:List Rg}(h:RoughOk n xs ls hs):LogOk n xs (innerL n ls hs):=
 logOk_map h.lo _ λi hi=>by have:=h.at hi;dsimp only;omega
theorem outer_ok{n:Nat}{xs:List Int}{ls hs:List Rg}(h:RoughOk n xs ls hs):LogOk n xs (outerL n ls hs):=
 logOk_map h.lo _ λi hi=>by have:=h.at hi;dsimp only;omega
theorem rgs_made(n:Nat):madeCells #[Value.int .i64 0,.int .i64 0] (n*2)=numArr (n*2) (λ_=>0):=by
 apply Array.ext
 ·simp[madeCells,numArr]
 ·intro i h1 h2
  rcases(show i % 2=0\/i % 2=1 by omega)with h|h<;>simp[madeCells,numArr,h]
theorem make_rgs(n:Nat)(hn:n<=1000)(W:World):
 (Instr.makeSlice 31 (.int .i64 n) (.int .i64 n)).run Tryz.prog W=.ok (.slice (some ⟨W.heap.size,0,none⟩) n n) (W.alloc (.cells (numArr (n*2) (λ_=>0)) 36)):=by
 obtain⟨i0,hi,hz0,hz1,hz2⟩:=info_parts info_rg
 have h:=run_make (P:=Tryz.prog) W 31 36 i0 (.agg #[.int .i64 0,.int .i64 0]) und_rgs hi hz0 .i64 .i64 n n (by omega) (Int.le_refl _) (by rw[hz2];omega) (by omega)
 rw[hz1]at h
 rw[<-rgs_made]
 simpa[Value.cells]using h
theorem copy_rgs{W:World}{g n c:Nat}{A:Option Addr}{es:List Rg}{G:Nat->Int}(hs:Sl 2 encR W W.heap.size A n c es)(hb:Blk W g 36 (numArr (n*2) G))(hn:0<n)(ty:TypeId):
 (Builtin.copy_ #[31,31] ty #[.slice (some ⟨g,0,none⟩) n n,.slice A n c]).run Tryz.prog W=.ok (goInt n) (W.setRow g (numArr (n*2) (flatF es))):=by
 obtain⟨b,o,rfl,_,hc⟩:=hs.at_ hn
 obtain⟨i0,hi,hz0,hz1,hz2⟩:=info_parts info_rg
 have hl:=encR_len es
 rw[hs.len]at hl
 have h:=run_copy_any (P:=Tryz.prog) W 31 31 ty 36 g n n ⟨b,o,none⟩ n c (numArr (n*2) G) 36 (es.flatMap encR) i0 und_rgs hi hb (by rw[hz1,hl];simp)
  (λj u hu=>by
    have hj:j<n*2:=by have:=(List.getElem?_eq_some_iff.1 hu).1;omega
    have hel:=hs.len
    have hx:es[j / 2]? =some es[j / 2]:=List.getElem?_eq_getElem (by omega)
    have e:(⟨b,o,none⟩:Addr).add j=⟨b,o+j,none⟩:=by unfold Addr.add;split<;>simp_all
    rw[e,show o+j=o+j / 2*2+j % 2 by omega]
    refine hc (j / 2) _ hx (j % 2) u ?_
    rcases(show j % 2=0\/j % 2=1 by omega)with h|h
    ·have:=encR_get hx (j:=0) rfl
     rw[show j / 2*2+0=j by omega,hu]at this
     rw[h]
     exact this.symm
    ·have:=encR_get hx (j:=1) rfl
     rw[show j / 2*2+1=j by omega,hu]at this
     rw[h]
     exact this.symm) (by rw[hl];simp[numArr]) (λu hu=>by
    obtain⟨x,_,hx⟩:=List.mem_flatMap.1 hu
    simp[encR]at hx
    rcases hx with rfl|rfl<;>rfl)
 rw[h,show Nat.min n n=n from Nat.min_self n,List.drop_eq_nil_of_le (by rw[hl];simp[numArr]),List.append_nil,flat_encR,hs.len]
end Go.Proofs.YtednconodjeniaaGreat.P
namespace Go.Proofs.YtednconodjeniaaGreat.P
open Go.RowKit Go.Shelf
structure SpX(w W:World)(A L H:Option Addr)(n c cl ch g1 g2:Nat)(F1 F2:Nat->Int):Prop where
 bel:Below w.heap.size w W
 b0:Blk W w.heap.size 56 #[.slice A n c,.slice L n cl,.slice H n ch]
 r1:Blk W (w.heap.size+1) 59 #[.int .i64 0,.int .i64 0]
 r2:Blk W (w.heap.size+1+1) 59 #[.int .i64 0,.int .i64 0]
 b1:Blk W g1 36 (numArr (n*2) F1)
 b2:Blk W g2 36 (numArr (n*2) F2)
 l1:w.heap.size+1+1<g1
 l2:w.heap.size+1+1<g2
 ne:g1≠g2
section
variable{w W W':World}{A L H:Option Addr}{n c cl ch g1 g2:Nat}{F1 F2:Nat->Int}
theorem SpX.later(h:SpX w W A L H n c cl ch g1 g2 F1 F2)(hb:Below W.heap.size W W'):SpX w W' A L H n c cl ch g1 g2 F1 F2:=
 ⟨Below.later h.bel hb,h.b0.later hb,h.r1.later hb,h.r2.later hb,h.b1.later hb,h.b2.later hb,h.l1,h.l2,h.ne⟩
theorem SpX.set1(h:SpX w W A L H n c cl ch g1 g2 F1 F2)(j:Nat)(v:Int):SpX w (W.setCell ⟨g1,j,none⟩ (.int .i64 v)) A L H n c cl ch g1 g2 (updN F1 j v) F2:=by
 have:=h.l1
 have:=h.ne
 refine⟨bset h.bel (by show w.heap.size<=g1;omega) _,h.b0.other (by show g1≠_;omega) _,h.r1.other (by show g1≠_;omega) _,h.r2.other (by show g1≠_;omega) _,?_,h.b2.other (by show g1≠_;omega) _,h.l1,h.l2,h.ne⟩
 have:=h.b1.set j (.int .i64 v)
 rwa[numArr_set]at this
theorem SpX.set2(h:SpX w W A L H n c cl ch g1 g2 F1 F2)(j:Nat)(v:Int):SpX w (W.setCell ⟨g2,j,none⟩ (.int .i64 v)) A L H n c cl ch g1 g2 F1 (updN F2 j v):=by
 have:=h.l2
 have:=h.ne
 refine⟨bset h.bel (by show w.heap.size<=g2;omega) _,h.b0.other (by show g2≠_;omega) _,h.r1.other (by show g2≠_;omega) _,h.r2.other (by show g2≠_;omega) _,h.b1.other (by show g2≠_;omega) _,?_,h.l1,h.l2,h.ne⟩
 have:=h.b2.set j (.int .i64 v)
 rwa[numArr_set]at this
theorem SpX.row1(h:SpX w W A L H n c cl ch g1 g2 F1 F2)(F:Nat->Int):SpX w (W.setRow g1 (numArr (n*2) F)) A L H n c cl ch g1 g2 F F2:=by
 have:=h.l1
 have:=h.ne
 exact⟨below_setRow h.bel (by omega) _,(setRow_other W g1 _ _ (by omega)).trans h.b0,(setRow_other W g1 _ _ (by omega)).trans h.r1,(setRow_other W g1 _ _ (by omega)).trans h.r2,setRow_heap W g1 _ _ _ _ h.b1,(setRow_other W g1 _ _ (by omega)).trans h.b2,h.l1,h.l2,h.ne⟩
theorem SpX.row2(h:SpX w W A L H n c cl ch g1 g2 F1 F2)(F:Nat->Int):SpX w (W.setRow g2 (numArr (n*2) F)) A L H n c cl ch g1 g2 F1 F:=by
 have:=h.l2
 have:=h.ne
 exact⟨below_setRow h.bel (by omega) _,(setRow_other W g2 _ _ (by omega)).trans h.b0,(setRow_other W g2 _ _ (by omega)).trans h.r1,(setRow_other W g2 _ _ (by omega)).trans h.r2,(setRow_other W g2 _ _ (by omega)).trans h.b1,setRow_heap W g2 _ _ _ _ h.b2,h.l1,h.l2,h.ne⟩
theorem SpX.cells(h:SpX w W A L H n c cl ch g1 g2 F1 F2):W.cell? ⟨w.heap.size,0,none⟩=some (.slice A n c)/\W.cell? ⟨w.heap.size,1,none⟩=some (.slice L n cl)/\W.cell? ⟨w.heap.size,2,none⟩=some (.slice H n ch)/\w.heap.size<W.heap.size:=⟨h.b0.cell 0,h.b0.cell 1,h.b0.cell 2,h.b0.lt⟩
end
structure SpY(w W:World)(A:Option Addr)(n c g1 g2 t1 t2:Nat)(xs:List Int)(es us:List Rg):Prop where
 bel:Below w.heap.size w W
 r1:Blk W (w.heap.size+1) 59 #[.int .i64 0,.int .i64 0]
 r2:Blk W (w.heap.size+1+1) 59 #[.int .i64 0,.int .i64 0]
 a1:Lat W t1 A (some ⟨g1,0,none⟩) n c n xs es
 a2:Lat W t2 A (some ⟨g2,0,none⟩) n c n xs us
theorem SpY.later{w W W':World}{A:Option Addr}{n c g1 g2 t1 t2:Nat}{xs:List Int}{es us:List Rg}(h:SpY w W A n c g1 g2 t1 t2 xs es us)(hb:Below W.heap.size W W'):SpY w W' A n c g1 g2 t1 t2 xs es us:=
 ⟨Below.later h.bel hb,h.r1.later hb,h.r2.later hb,h.a1.later hb,h.a2.later hb⟩
theorem spy_a{w W:World}{A:Option Addr}{n c g1 g2:Nat}{xs:List Int}{es us:List Rg}(hb:Below w.heap.size w W)(hr1:Blk W (w.heap.size+1) 59 #[.int .i64 0,.int .i64 0])(hr2:Blk W (w.heap.size+1+1) 59 #[.int .i64 0,.int .i64 0])
 (ha:Sl 1 encI W W.heap.size A n c xs)(he:Sl 2 encR W W.heap.size (some ⟨g1,0,none⟩) n n es)(hu:Sl 2 encR W W.heap.size (some ⟨g2,0,none⟩) n n us):
 SpY w (((W.alloc (.cells #[.slice A n c,.slice (some ⟨g1,0,none⟩) n n] 101)).alloc (.cells #[.slice A n c,.slice (some ⟨g2,0,none⟩) n n] 101)).drew) A n c g1 g2 W.heap.size (W.heap.size+1) xs es us:=by
 have hbb:=(balloc (balloc (brefl W) (.cells #[.slice A n c,.slice (some ⟨g1,0,none⟩) n n] 101)) (.cells #[.slice A n c,.slice (some ⟨g2,0,none⟩) n n] 101)).drew
 have h2:=Blk.new (W.alloc (.cells #[.slice A n c,.slice (some ⟨g1,0,none⟩) n n] 101)) 101 #[.slice A n c,.slice (some ⟨g2,0,none⟩) n n]
 rw[World.size_alloc]at h2
 exact⟨Below.later hb hbb,hr1.later hbb,hr2.later hbb,⟨(Blk.new W 101 #[.slice A n c,.slice (some ⟨g1,0,none⟩) n n]).alloc _,ha.later hbb,he.later hbb⟩,⟨h2,ha.later hbb,hu.later hbb⟩⟩
theorem spy_b{w W:World}{A:Option Addr}{n c g1 g2 t1 t2:Nat}{xs:List Int}{es us:List Rg}(h:SpY w W A n c g2 g1 t2 t1 xs us es):SpY w W A n c g1 g2 t1 t2 xs es us:=⟨h.bel,h.r1,h.r2,h.a2,h.a1⟩
set_option maxRecDepth 100000 in
set_option maxHeartbeats 4000000 in
theorem span_ok(A L H:Option Addr)(n c cl ch:Nat)(xs:List Int)(ls hs:List Rg)(w:World)(hr:Ro w A L H n c cl ch xs ls hs)(hok:RoughOk n xs ls hs):
 Calls Tryz.prog 17 #[.agg #[.slice A n c,.slice L n cl,.slice H n ch]] w λe w'=>∃p q,e=.returned (.tuple #[qv (prQ xs (innerL n ls hs) p),qv (prQ xs (outerL n ls hs) q),.int .i64 0])/\Below w.heap.size w w'/\
  PrOk n p/\(∀r,PrOk n r->leQ (prQ xs (innerL n ls hs) p) (prQ xs (innerL n ls hs) r))/\PrOk n q/\∀r,PrOk n r->leQ (prQ xs (outerL n ls hs) q) (prQ xs (outerL n ls hs) r):=by
 have hbel:Below w.heap.size w (((w.alloc (.cells #[.slice A n c,.slice L n cl,.slice H n ch] 56)).alloc (.cells #[.int .i64 0,.int .i64 0] 59)).alloc (.cells #[.int .i64 0,.int .i64 0] 59)):=balloc (balloc (balloc (brefl w) _) _) _
 have Hc:=Lib.hid (checkRough_ok A L H n c cl ch xs ls hs _ (hr.later hbel) hok)
 have Hbel:=Lib.hid hbel
 have Hb0:=Lib.hid (((Blk.new w 56 #[.slice A n c,.slice L n cl,.slice H n ch]).alloc (.cells #[.int .i64 0,.int .i64 0] 59)).alloc (.cells #[.int .i64 0,.int .i64 0] 59))
 have hb1:=(Blk.new (w.alloc (.cells #[.slice A n c,.slice L n cl,.slice H n ch] 56)) 59 #[.int .i64 0,.int .i64 0]).alloc (.cells #[.int .i64 0,.int .i64 0] 59)
 rw[World.size_alloc]at hb1
 have hb2:=Blk.new ((w.alloc (.cells #[.slice A n c,.slice L n cl,.slice H n ch] 56)).alloc (.cells #[.int .i64 0,.int .i64 0] 59)) 59 #[.int .i64 0,.int .i64 0]
 rw[World.size_alloc,World.size_alloc]at hb2
 have Hb1:=Lib.hid hb1
 have Hb2:=Lib.hid hb2
 have Hr:=Lib.hid hr
 have Hok:=Lib.hid hok
 have hn2:=hok.lo.n2
 have hn8:=hok.lo.n8
 clear hbel hb1 hb2 hr hok
 go_enter Tryz.func17,Tryz.ntmps17
 go_wp2_with fail
 refine Hc.out.mono ?_
 rintro e w1⟨rfl,hb⟩
 have HB1:=Lib.hid (Below.later Hbel.out hb)
 have HX0:=Lib.hid (Hb0.out.later hb)
 have HX1:=Lib.hid (Hb1.out.later hb)
 have HX2:=Lib.hid (Hb2.out.later hb)
 have c0:w1.cell? ⟨w.heap.size,0,none⟩=some (.slice A n c):=HX0.out.cell 0
 have c1:=HX0.out.lt
 have hmk:=make_rgs n (by omega)
 clear hb Hbel Hb0 Hb1 Hb2 Hc
 go_upto_region 4 with fail
 go_cut [6,7]from 12 (λs6 s7 wx=>∃g1 g2,s6=.slice (some ⟨g1,0,none⟩) n n/\s7=.slice (some ⟨g2,0,none⟩) n n/\SpX w wx A L H n c cl ch g1 g2 (λ_=>0) (λ_=>0))
 case first=>
  have hlt:=HX2.out.lt
  have hst:SpX w ((w1.alloc (Obj.cells (numArr (n*2) λ_=>0) 36)).alloc (Obj.cells (numArr (n*2) λ_=>0) 36)).drew A L H n c cl ch w1.heap.size (w1.heap.size+1) (λ_=>0) (λ_=>0):=by
   have hbb:=(balloc (balloc (brefl w1) (Obj.cells (numArr (n*2) λ_=>0) 36)) (Obj.cells (numArr (n*2) λ_=>0) 36)).drew
   refine⟨Below.later HB1.out hbb,HX0.out.later hbb,HX1.out.later hbb,HX2.out.later hbb,(Blk.new w1 _ _).alloc _,?_,by omega,by omega,by omega⟩
   have h5:=Blk.new (w1.alloc (Obj.cells (numArr (n*2) λ_=>0) 36)) 36 (numArr (n*2) λ_=>0)
   rw[World.size_alloc]at h5
   exact h5
  have Hst:=Lib.hid hst
  clear hst HB1 HX0 HX1 HX2 Hr Hok
  go_region
  ·go_wp2_with fail
   go_meet
   exact⟨_,_,rfl,rfl,Hst.out⟩
  ·go_wp2_with fail
   go_meet
   exact⟨_,_,rfl,rfl,⟨Hst.out.bel,Hst.out.b0,Hst.out.r1,Hst.out.r2,Hst.out.b2,Hst.out.b1,Hst.out.l2,Hst.out.l1,λe=>Hst.out.ne e.symm⟩⟩
 case rest=>
 clear HB1 HX0 HX1 HX2 c0 c1 hmk
 obtain⟨g1,g2,rfl,rfl,hS⟩:=hcut
 obtain⟨c0,c1,c2,c3⟩:=hS.cells
 have hcp1:=λty=>copy_rgs (Hr.out.lo.later hS.bel) hS.b1 (show 0<n by omega) ty
 have hS1:=hS.row1 (flatF ls)
 obtain⟨W1,hW1⟩:∃W1,wc.setRow g1 (numArr (n*2) (flatF ls))=W1:=⟨_,rfl⟩
 rw[hW1]at hS1
 simp only[hW1]at hcp1
 have hcp2:=λty=>copy_rgs (Hr.out.lo.later hS1.bel) hS1.b2 (show 0<n by omega) ty
 have hS2:=hS1.row2 (flatF ls)
 obtain⟨W2,hW2⟩:∃W2,W1.setRow g2 (numArr (n*2) (flatF ls))=W2:=⟨_,rfl⟩
 rw[hW2]at hS2
 simp only[hW2]at hcp2
 obtain⟨d0,d1,d2,d3⟩:=hS1.cells
 obtain⟨e0,e1,e2,e3⟩:=hS2.cells
 have HS2:=Lib.hid hS2
 clear hS hS1 hS2 hW1 hW2
 go_wp2_with fail
 refine loop_n (λq a W=>a.defers=[]/\∃i:Nat,i+q=n/\SpX w W A L H n c cl ch g1 g2 (innerF ls hs i) (outerF ls hs i)/\Fits (none::some (.pointer (some ⟨w.heap.size,0,none⟩))::some (.pointer (some ⟨w.heap.size+1,0,none⟩))::some (.pointer (some ⟨w.heap.size+1+1,0,none⟩))::none::none::some (.slice (some ⟨g1,0,none⟩) n n)::some (.slice (some ⟨g2,0,none⟩) n n)::none::none::none::none::none::none::none::none::none::none::none::none::none::none::none::none::none::none::none::none::none::none::none::none::none::none::none::none::some (.slice H n ch)::some (.int .i64 (n:Nat))::some (.int .i64 (i:Nat))::none::none::none::none::none::none::none::none::none::none::none::none::none::none::none::none::none::none::none::none::none::none::none::none::none::none::none::none::none::none::none::none::none::none::none::none::none::none::[]) a.tmps.toList) n ?_ ?_
 ·have h1:flatF ls=innerF ls hs 0:=by funext k;simp[innerF]
  have h2:flatF ls=outerF ls hs 0:=by funext k;simp[outerF]
  refine⟨rfl,0,by omega,?_,?_⟩
  ·rw[<-h1,<-h2];exact HS2.out
  repeat (first|exact fits_nil|refine fits_none ?_|refine fits_some ?_)
 clear HS2 c0 c1 c2 c3 d0 d1 d2 d3 e0 e1 e2 e3 hcp1 hcp2
 intro q a W hI K1 hK
 obtain⟨hds,i,hiq,hS,hfit⟩:=hI
 obtain⟨f',hf'⟩:=fits_act hfit
 rw[hds]at hf'
 subst hf'
 clear hfit hds
 simp only[fillP,Nat.reduceAdd]
 have HS:=Lib.hid hS
 by_cases hlt:i<n
 ·obtain⟨ub,uo,y,rfl,hub,hy,u0,u1⟩:=(Hr.out.later hS.bel).hi.ltR hlt
  have hey:=eat_of hy
  have i1:(i:Int)<(n:Int):=by omega
  have i2:(0:Int)<=(i:Int):=by omega
  have i3:IntKind.i64.wrap ((i:Int)+1)=(i:Int)+1:=by rw[IntKind.wrap_i64];omega
  have HW:=Lib.hid (Blk.new W 36 #[.int .i64 y.lo,.int .i64 y.hi])
  have Hey:=Lib.hid hey
  clear hy hS hey
  go_wp2_with fail
  refine dag 11 (by kernel_rfl) (by kernel_rfl) (.is ?_::.is ?_::.is ?_::.is ?_::.is ?_::.is ?_::.is ?_::.is ?_::.is ?_::.is ?_::.is ?_::[]) rfl ?sta ?oba
  case sta=>simp[Spec.ok]
  case oba=>
  intro env V hG
  have hWV:Below W.heap.size W V:=Below.later (balloc (brefl W) _) hG
  have hV:=HS.out.later hWV
  have hvb:=HW.out.later hG
  have d0:V.cell? ⟨W.heap.size,0,none⟩=some (.int .i64 y.lo):=hvb.cell 0
  have d1:=hvb.lt
  have d2:V.cell? ⟨g1,i*2+1,none⟩=some (.int .i64 (eAt ls i).hi):=by
   rw[hV.b1.cell,numArr_get (by omega)]
   unfold innerF flatF
   rw[if_neg (by omega),if_neg (by omega),show(i*2+1) / 2=i by omega]
  have d3:=hV.b1.lt
  have d4:V.cell? ⟨g1,i*2,none⟩=some (.int .i64 (innerF ls hs i (i*2))):=by rw[hV.b1.cell,numArr_get (by omega)]
  have d5:=hV.b1.frozen (i*2)
  have d6:=hV.b1.frozen (i*2+1)
  have hne:g1≠W.heap.size:=by have:=HS.out.b1.lt;omega
  have HV:=Lib.hid hV
  have Hvb:=Lib.hid hvb
  clear hWV hG hV hvb
  iterate 11 (refine obls_is ?_ ?_;unfold doesAt;go_simp;(try go_bits);(first|(refine⟨brefl _,?_⟩;rfl)|rfl);intro K hK;go_simp;refine hK _ ?_;clear hK K)
  refine obls_last (λhok=>?_)
  clear hok
  unfold doesAt
  go_simp
  have hi1:=innerF_succ ls hs i
  have ho1:=outerF_succ ls hs i
  rw[Hey.out]at hi1 ho1
  have hV3:=(HV.out.set1 (i*2) (eAt ls i).hi).set1 (i*2+1) y.lo
  have hb3:=(Hvb.out.other (p:=⟨g1,i*2,none⟩) hne (.int .i64 (eAt ls i).hi)).other (p:=⟨g1,i*2+1,none⟩) hne (.int .i64 y.lo)
  rw[hi1]at hV3
  obtain⟨W3,hW3⟩:∃W3,(V.setCell ⟨g1,i*2,none⟩ (.int .i64 (eAt ls i).hi)).setCell ⟨g1,i*2+1,none⟩ (.int .i64 y.lo)=W3:=⟨_,rfl⟩
  rw[hW3]at hV3 hb3 ⊢
  have HV3:=Lib.hid hV3
  have Ho1:=Lib.hid ho1
  clear HV Hvb HW d0 d1 d2 d3 d4 d5 d6 hne hi1 ho1 hW3
  clear V
  have q0:W3.cell? ⟨W.heap.size,1,none⟩=some (.int .i64 y.hi):=hb3.cell 1
  have q1:=hb3.lt
  have q2:W3.cell? ⟨g2,i*2+1,none⟩=some (.int .i64 (outerF ls hs i (i*2+1))):=by rw[hV3.b2.cell,numArr_get (by omega)]
  have q3:=hV3.b2.lt
  have q4:=hV3.b2.frozen (i*2+1)
  clear hV3 hb3
  go_wp2_with fail
  have hS4:=HV3.out.set2 (i*2+1) y.hi
  rw[Ho1.out]at hS4
  refine hK _ _ (q-1) (by omega) ⟨rfl,i+1,by omega,hS4,?_⟩
  repeat (first|exact fits_nil|refine fits_none ?_|refine fits_some ?_)
 obtain rfl:i=n:=by omega
 clear hK hlt hiq
 have HI:=Lib.hid (show Sl 2 encR W W.heap.size (some ⟨g1,0,none⟩) i i (innerL i ls hs)from sl_rgs (by have:=hS.b1;rwa[inner_eq]at this) (by simp[innerL]) (by omega))
 have HO:=Lib.hid (show Sl 2 encR W W.heap.size (some ⟨g2,0,none⟩) i i (outerL i ls hs)from sl_rgs (by have:=hS.b2;rwa[outer_eq]at this) (by simp[outerL]) (by omega))
 obtain⟨c0,c1,c2,c3⟩:=hS.cells
 have Hspa:=Lib.hid (spy_a hS.bel hS.r1 hS.r2 (Hr.out.at_.later hS.bel) HI.out HO.out)
 have Hspb:=Lib.hid (spy_b (spy_a hS.bel hS.r1 hS.r2 (Hr.out.at_.later hS.bel) HO.out HI.out))
 clear hS c1 c2 HI HO
 go_upto_region 13 with fail
 go_cut [10,11]from 61 (λs10 s11 wx=>∃t1 t2,s10=.pointer (some ⟨t1,0,none⟩)/\s11=.pointer (some ⟨t2,0,none⟩)/\SpY w wx A i c g1 g2 t1 t2 xs (innerL i ls hs) (outerL i ls hs))
 case first=>
  go_region
  ·go_wp2_with fail
   go_meet
   exact⟨_,_,rfl,rfl,Hspa.out⟩
  ·go_wp2_with fail
   go_meet
   exact⟨_,_,rfl,rfl,Hspb.out⟩
 case rest=>
 clear Hspa Hspb c0 c3
 obtain⟨t1,t2,rfl,rfl,hS⟩:=hcut
 have HS:=Lib.hid hS
 have Hp:=Lib.hid (λT E W(h:Lat W T A E i c i xs (innerL i ls hs))=>lathe_best proves_any T A E i c i xs _ W h (inner_ok Hok.out))
 have Hq:=Lib.hid (λT E W(h:Lat W T A E i c i xs (outerL i ls hs))=>lathe_best proves_any T A E i c i xs _ W h (outer_ok Hok.out))
 clear hS
 go_wp2_with fail
 refine(Hp.out t1 _ _ HS.out.a1).mono ?_
 rintro e w2⟨p,rfl,hb2,hpok,hpmin⟩
 have HS2:=Lib.hid (HS.out.later hb2)
 have Hpok:=Lib.hid hpok
 have Hpmin:=Lib.hid hpmin
 clear hb2 HS hpok hpmin
 go_wp2_with fail
 refine(Hq.out t2 _ _ HS2.out.a2).mono ?_
 rintro e w3⟨q,rfl,hb3,hqok,hqmin⟩
 have hS3:=HS2.out.later hb3
 have Hqok:=Lib.hid hqok
 have Hqmin:=Lib.hid hqmin
 have c0:w3.cell? ⟨w.heap.size+1,0,none⟩=some (.int .i64 0):=hS3.r1.cell 0
 have c1:w3.cell? ⟨w.heap.size+1,1,none⟩=some (.int .i64 0):=hS3.r1.cell 1
 have c2:w3.cell? ⟨w.heap.size+1+1,0,none⟩=some (.int .i64 0):=hS3.r2.cell 0
 have c3:w3.cell? ⟨w.heap.size+1+1,1,none⟩=some (.int .i64 0):=hS3.r2.cell 1
 have c4:=hS3.r1.lt
 have c5:=hS3.r2.lt
 have c6:=hS3.r1.frozen 0
 have c7:=hS3.r1.frozen 1
 have c8:=hS3.r2.frozen 0
 have c9:=hS3.r2.frozen 1
 have HB:=Lib.hid hS3.bel
 clear hb3 HS2 hqok hqmin hS3 Hp Hq
 go_wp2
 refine bodyPost_ret (v:=.tuple #[qv (prQ xs (innerL i ls hs) p),qv (prQ xs (outerL i ls hs) q),.int .i64 0]) (by simp[results,Tryz.results17,go_sem,c0,c1,c2,c3]) rfl ⟨p,q,rfl,?_,Hpok.out,Hpmin.out,Hqok.out,Hqmin.out⟩
 exact bset (bset (bset (bset HB.out (p:=⟨w.heap.size+1,0,none⟩) (by simp) _) (p:=⟨w.heap.size+1,1,none⟩) (by simp) _) (p:=⟨w.heap.size+1+1,0,none⟩) (by show w.heap.size<=w.heap.size+1+1;omega) _) (p:=⟨w.heap.size+1+1,1,none⟩) (by show w.heap.size<=w.heap.size+1+1;omega) _
end Go.Proofs.YtednconodjeniaaGreat.P
