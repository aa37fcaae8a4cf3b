/- clip.Parted: when a place is parted, or the error. -/
import Derived.Test.YtlclnbhjjdcnkaaGreatDoorZCCheckPrices
namespace Go.Proofs.YtlclnbhjjdcnkaaGreatDoor.C
open Go.RowKit Go.Shelf Go.Maps
attribute [local go_sem] Oper.semAt_some
def overB(ks:List Kd)(p:Nat)(f k:Nat):Bool:=decide (f<p)&&decide (p<f+(ks.getD k ⟨0,0,0⟩).w.toNat)
def crossB(L:Nat)(F:Nat->Int)(ks:List Kd)(A Bh:Nat->Int)(p:Nat):Bool:=(List.range L).any λf=>(List.range ks.length).any λk=>canI L F ks f k&&decide (A L<=wtK ks A Bh f k)&&overB ks p f k
theorem cross_iff{L:Nat}{F:Nat->Int}{ks:List Kd}{A Bh:Nat->Int}{p:Nat}:crossB L F ks A Bh p=true↔∃f k,keptS L F ks A Bh f k/\overB ks p f k=true:=by
 unfold crossB keptS
 simp only[List.any_eq_true,List.mem_range,Bool.and_eq_true,decide_eq_true_eq]
 constructor
 ·rintro⟨f,hf,k,hk,⟨h1,h2⟩,h3⟩;exact⟨f,k,⟨hf,h1,h2⟩,h3⟩
 ·rintro⟨f,k,⟨hf,h1,h2⟩,h3⟩
  obtain⟨x,hx,_⟩:=canI_at h1
  exact⟨f,hf,k,(List.getElem?_eq_some_iff.1 hx).1,⟨h1,h2⟩,h3⟩
def partedP(L:Nat)(F:Nat->Int)(ks:List Kd)(A Bh:Nat->Int)(p:Int):Int×Int:=
 if inR 0 L p=false then(0,2)else if A p.toNat+Bh p.toNat<A L then(0,0)else if crossB L F ks A Bh p.toNat then(1,0)else(2,0)
theorem load_int(a:Addr)(W:World)(x:Int)(h:W.cell? a=some (.int .i64 x)):(loadVar 3 a).run Tryz.prog W=.ok (.int .i64 x) W:=by
 go_simp
theorem walks_later{W W':World}(h:Below W.heap.size W W'):KeepsWalks W W':=⟨h.size,λk _ hk _=>(h.block k (Array.getElem?_eq_some_iff.1 hk).1).trans hk⟩
theorem range_best{B1 T L:Nat}{FA:Option Addr}{fn fc:Nat}{KA:Option Addr}{kc:Nat}{fs:List Int}{ks:List Kd}{A Bh:Nat->Int}{g:Operand}{p d:Tmp}{assign body:Code}{Q:Exit->Act->World->Prop}{a:Act}{w:World}
 (hg:a.eval g=.func (.func 64) #[] #[.pointer (some ⟨B1,0,none⟩)])
 (hA:aheadAt L (Fst fs L) ks L=A)(hBh:behindAt L (Fst fs L) ks L=Bh)(hT:TabOk w T L FA fn fc KA kc fs ks)(hB1:B1<w.heap.size)(h1:w.cell? ⟨B1,0,none⟩=some (.pointer (some ⟨T,0,none⟩)))
 (I:List (KeptT L (Fst fs L) ks A Bh)->World->Prop)(Ix:Code->List (KeptT L (Fst fs L) ks A Bh)->World->Prop)(hI:∀pre W W',Kept w.heap.size W W'->I pre W->I pre W')(hIx:∀c pre W W',Kept w.heap.size W W'->Ix c pre W->Ix c pre W')(hIl:∀pre W W',Gr W W'->I pre W->I pre W')(h0:I [] w)
 (hassign:∀(l:Nat)(x:KeptT L (Fst fs L) ks A Bh)(W:World)(K:Act->World->Prop),K (boxedAct a p d x.1.1 x.1.2 W.heap.size) (W.alloc (.cells #[.int .i64 (x.1.1:Nat),.int .i64 (x.1.2:Nat)] 37))->
   assign.wpIn (Fence.wide.inRound l) 7 Tryz.prog (Exit.then K (λ_ _ _=>False)) {tmps:=a.tmps.setIfInBounds p (.agg #[.int .i64 (x.1.1:Nat),.int .i64 (x.1.2:Nat)]),defers:=[]} W)
 (hbody:∀(l:Nat)(pre:List (KeptT L (Fst fs L) ks A Bh))(x:KeptT L (Fst fs L) ks A Bh)(Bx:Nat)(W:World),w.heap.size<=W.heap.size->w.heap.size<=Bx->Blk W Bx 37 #[.int .i64 (x.1.1:Nat),.int .i64 (x.1.2:Nat)]->I pre W->
   body.wpIn (Fence.wide.inRound l) 7 Tryz.prog (ownPostG w.heap.size KeepsWalks I Ix (pre++[x]) W) (boxedAct a p d x.1.1 x.1.2 Bx) W)
 (hdone:∀(D:Nat)(ys:List (KeptT L (Fst fs L) ks A Bh))(W:World),w.heap.size<=D->(∀f k,keptS L (Fst fs L) ks A Bh f k->∃y∈ys,y.1=(f,k))->I ys W->W.heap[D]? =some (.deferred (some []))->Q .normal {a with defers:=mark D::a.defers} W)
 (hstop:∀(D:Nat)(c:Code)(pre:List (KeptT L (Fst fs L) ks A Bh))(W:World),w.heap.size<=D->Ix c pre W->W.heap[D]? =some (.deferred (some []))->c.wp Tryz.prog Q {a with defers:=mark D::a.defers} W):
 (Code.rangeFunc g #[p] assign body).wp Tryz.prog Q a w:=by
 refine(wpIn_wide (n:=9)).1 ?_
 refine wpIn_rangeFunc_ownH (F:=Fence.wide) rfl (by omega) hg trivial (enters_of Tryz.func64 (by kernel_rfl) rfl)
  (best_stops 8 B1 T L FA fn fc KA kc fs ks A Bh hA hBh w hT hB1 h1) (λh k=>h.trans k) (λW l o o' hl ho _ hw=>KeepsWalks.putObj _ ho hw) (Below.refl _ _) (λ_=>rfl)
  (λpre W=>w.heap.size<=W.heap.size/\I pre W) Ix
  (λs W W' row hs hg hr=>⟨Nat.le_trans hs.1 hg.size,hI s W W' (Kept.of_grown hg hr) hs.2⟩) (λc s W W' row hs hg hr=>hIx c s W W' (Kept.of_grown hg hr) hs) ⟨Nat.le_refl _,h0⟩
  (λx a' W=>∃Bx,w.heap.size<=Bx/\Blk W Bx 37 #[.int .i64 (x.1.1:Nat),.int .i64 (x.1.2:Nat)]/\a'=boxedAct a p d x.1.1 x.1.2 Bx)
  (λx a' s W W' row hs hg hr=>by
    obtain⟨Bx,h1,h2,h3⟩:=hs
    exact⟨Bx,h1,h2.kept (Kept.of_grown hg hr),h3⟩) ?_ ?_ ?_ ?_
 ·intro l pre x W K hi hK
  have:=hassign l x W K (hK _ _ (KeepsFrom.later (balloc (brefl W) _)) (walks_later (balloc (brefl W) _)) ⟨Nat.le_trans hi.1 (by simp),hIl pre W _ (balloc (brefl W) _) hi.2⟩
   ⟨W.heap.size,hi.1,Blk.new W _ _,rfl⟩)
  have e2:∀v:Value,Array.foldl (λ(t:Array Value)(x:Tmp×Value)=>match x with|(p,v)=>t.setIfInBounds p v) a.tmps ((#[p]:Array Tmp).zip #[v])=a.tmps.setIfInBounds p v:=λv=>by simp
  rw[e2]
  exact this
 ·intro l pre x a' W _ _ hi hx hlen
  obtain⟨Bx,h1,h2,rfl⟩:=hx
  refine wpIn_mono (hbody l pre x Bx W hi.1 h1 h2 hi.2) ?_
  intro e b W' hq
  cases e with
  |normal=>exact⟨hq.1,hq.2.1,Nat.le_trans hi.1 hq.1.size,hq.2.2⟩
  |_=>exact hq
 ·intro D xs W hD hS hi hd
  exact hdone D xs W hD hS hi.2 hd
 ·intro D c pre W hD hS hi hd
  exact wpIn_wide.2 (hstop D c pre W hD hi hd)
set_option maxRecDepth 100000 in
set_option maxHeartbeats 4000000 in
theorem Parted_ok(L:Nat)(FA:Option Addr)(fn fc:Nat)(fs:List Int)(KA:Option Addr)(kc:Nat)(ks:List Kd)(p:Int)(w:World)(hfs:Sl 1 encI w w.heap.size FA fn fc fs)(hks:Sl 3 encK w w.heap.size KA ks.length kc ks)(he:rkE L fs ks=0):
 Calls Tryz.prog 11 #[.agg #[.int .i64 L,.slice FA fn fc],.slice KA ks.length kc,.int .i64 p] w λe w'=>e=.returned (.tuple #[.int .i64 (partedP L (Fst fs L) ks (aheadAt L (Fst fs L) ks L) (behindAt L (Fst fs L) ks L) p).1,.int .i64 (partedP L (Fst fs L) ks (aheadAt L (Fst fs L) ks L) (behindAt L (Fst fs L) ks L) p).2])/\Below w.heap.size w w':=by
 have ho:=Lib.hid (λW hb=>open_ok L FA fn fc fs KA kc ks W (hfs.later (w':=W) hb) (hks.later hb) he)
 obtain⟨r,hr⟩:∃r,partedP L (Fst fs L) ks (aheadAt L (Fst fs L) ks L) (behindAt L (Fst fs L) ks L) p=r:=⟨_,rfl⟩
 rw[hr]
 have Hr:=Lib.hid hr
 clear hfs hks he hr
 refine calls_of_marks Tryz.func11 rfl ?_
 simp only[Tryz.ntmps11,List.size_toArray,List.length_cons,List.length_nil,Nat.reduceAdd,Nat.reduceSub,Array.replicate_succ,Array.replicate_zero,List.push_toArray,List.append_toArray,List.nil_append,List.cons_append]
 go_wp2_with fail
 have HW0:=balloc (balloc (balloc (balloc (brefl w) (.cells #[.int .i64 L,.slice FA fn fc] 24)) (.cells #[.int .i64 p] 3)) (.cells #[.int .i64 0] 3)) (.cells #[.int .i64 0] 26)
 refine(ho.out _ HW0).mono ?_
 rintro e w1⟨T,rfl,hb1,hT⟩
 have hR:=(RC.new 3 26 24 3 w #[.int .i64 L,.slice FA fn fc] #[.int .i64 p]).later hb1
 have hB0:=((((Blk.new w 24 #[.int .i64 L,.slice FA fn fc]).alloc (.cells #[.int .i64 p] 3)).alloc (.cells #[.int .i64 0] 3)).alloc (.cells #[.int .i64 0] 26)).later hb1
 have hB1:Blk w1 (w.heap.size+1) 3 #[.int .i64 p]:=by
  have h5:=(((Blk.new (w.alloc (.cells #[.int .i64 L,.slice FA fn fc] 24)) 3 #[.int .i64 p]).alloc (.cells #[.int .i64 0] 3)).alloc (.cells #[.int .i64 0] 26)).later hb1
  rw[World.size_alloc]at h5
  exact h5
 have HR:=Lib.hid hR
 have HT:=Lib.hid hT
 have HB0:=Lib.hid hB0
 have HB1:=Lib.hid hB1
 have hL1:=hT.l1
 have hL2:=hT.l2
 have hTl:=hT.tab.core.lt
 have hA24:=aheadAt_bd (L:=L) (F:=Fst fs L) hT.kok L
 have hB24:=behindAt_bd (L:=L) (F:=Fst fs L) hT.kok L (Nat.le_refl _)
 have hah:=hT.tab.ah
 have hbe:=hT.tab.be
 obtain⟨Bh,hBh⟩:∃Bh,behindAt L (Fst fs L) ks L=Bh:=⟨_,rfl⟩
 obtain⟨A,hA⟩:∃A,aheadAt L (Fst fs L) ks L=A:=⟨_,rfl⟩
 rw[hBh]at hB24 hbe Hr
 rw[hA]at hA24 hah Hr
 have HA24:=Lib.hid hA24
 have HB24:=Lib.hid hB24
 have Hah:=Lib.hid hah
 have Hbe:=Lib.hid hbe
 have HBh:=Lib.hid hBh
 have HA:=Lib.hid hA
 have Hk:=Lib.hid hT.kok
 obtain⟨r0,r1,r2,r3,r4⟩:=hR.cells
 have q0:=hB0.cell 0
 have q1:=hB1.cell 0
 have z0:w.heap.size<w1.heap.size:=by omega
 have z1:w.heap.size+1<w1.heap.size:=by omega
 have hGa:=balloc (brefl w1) (.cells #[.pointer (some ⟨T,0,none⟩)] 65)
 have hbt:Blk (w1.alloc (.cells #[.pointer (some ⟨T,0,none⟩)] 65)) w1.heap.size 65 #[.pointer (some ⟨T,0,none⟩)]:=Blk.new w1 _ _
 have HGa:=Lib.hid hGa
 have Hbt:=Lib.hid hbt
 clear hb1 hR hT hB0 hB1 HW0 ho hA24 hB24 hah hbe hBh hA hGa hbt r0 r1 r2 r3
 go_wp2_with fail
 refine(within_one 0 L p (w1.heap.size+1) _ (by simp) (by go_simp)).mono ?_
 rintro e w2⟨rfl,hb2⟩
 have hG2:=Below.later (balloc HGa.out (.cells #[.int .i64 p] 3)) hb2
 have hbt2:=(Hbt.out.later (balloc (brefl _) (.cells #[.int .i64 p] 3))).later hb2
 have HG2:=Lib.hid hG2
 have Hbt2:=Lib.hid hbt2
 have hRC:=HR.out.later hG2
 obtain⟨r0,r1,r2,r3,r5⟩:=hRC.cells
 have r6:w.heap.size+1+1<w2.heap.size:=by omega
 have HRC:=Lib.hid hRC
 clear hb2 hG2 hbt2 hRC q0 q1 z0 z1 r4
 cases hin:inR 0 L p with
 |false=>
  have HE:=Lib.hid (show r=(0,2)by rw[<-Hr.out];simp[partedP,hin])
  have HR2:=Lib.hid ((HRC.out.setX 0).setE 2)
  clear hin
  go_wp2_with fail
  refine postM_cells (B:=w.heap.size) (v:=.tuple #[.int .i64 0,.int .i64 2]) (Marks.nil _ _) (λW' hk=>?_) (λW' hk=>?_)
  ·obtain⟨r0,r1,_⟩:=(HR2.out.kept hk (Nat.le_refl _)).cells
   exact results_cells2 rfl _ W' _ _ 0 2 .i64 .i64 rfl rfl (load_int _ _ _ r0) (load_err _ _ _ r1)
  ·exact⟨by rw[HE.out],(HR2.out.kept hk (Nat.le_refl _)).bel⟩
 |true=>
  obtain⟨p1,p2⟩:=(inR_iff _ _ _).1 hin
  obtain⟨m,rfl⟩:∃m:Nat,p=m:=⟨p.toNat,by omega⟩
  have Hin:=Lib.hid hin
  have HE:=Lib.hid (show r=if A m+Bh m<A L then(0,0)else if crossB L (Fst fs L) ks A Bh m then(1,0)else(2,0)by rw[<-Hr.out];simp[partedP,hin])
  have hT2:=HT.out.later HG2.out
  have q0:=(HB0.out.later HG2.out).cell 0
  have q1:=(HB1.out.later HG2.out).cell 0
  have z0:=(HB0.out.later HG2.out).lt
  have z1:=(HB1.out.later HG2.out).lt
  have t0:=Hbt2.out.cell 0
  have tz:=Hbt2.out.lt
  have e1:w2.cell? ⟨T,28+m,none⟩=some (.int .i64 (A m)):=(HG2.out.cell (p:=⟨T,28+m,none⟩) hTl).trans (Hah.out m (by omega))
  have e2:w2.cell? ⟨T,28+L,none⟩=some (.int .i64 (A L)):=(HG2.out.cell (p:=⟨T,28+L,none⟩) hTl).trans (Hah.out L (by omega))
  have e3:w2.cell? ⟨T,53+m,none⟩=some (.int .i64 (Bh m)):=(HG2.out.cell (p:=⟨T,53+m,none⟩) hTl).trans (Hbe.out m (by omega))
  have tl2:T<w2.heap.size:=hT2.tab.core.lt
  have j1:(m:Int)<25:=by omega
  have j2:(0:Int)<=(m:Int):=by omega
  have j3:(L:Int)<25:=by omega
  have j4:(0:Int)<=(L:Int):=by omega
  obtain⟨a1,a2⟩:=HA24.out m
  obtain⟨a3,a4⟩:=HB24.out m
  obtain⟨a5,a6⟩:=HA24.out L
  have hw1:IntKind.i64.wrap (A m+Bh m)=A m+Bh m:=by rw[IntKind.wrap_i64];omega
  have HT2:=Lib.hid hT2
  clear hin hT2 a1 a2 a3 a4 a5 a6
  cases hd:decide (A m+Bh m<A L)with
  |true=>
   have HE2:=Lib.hid (show r=(0,0)by rw[HE.out,if_pos (by simpa using hd)])
   go_wp2_with fail
   refine dag 22 (by kernel_rfl) (by kernel_rfl) (.is ?_::.is ?_::.is ?_::.is ?_::.is ?_::.is ?_::.is ?_::.is ?_::.is ?_::.is ?_::.is ?_::.is ?_::.is ?_::.is ?_::.is ?_::.is ?_::.is ?_::.is ?_::.is ?_::.is ?_::.is ?_::.is ?_::[]) rfl ?st1 ?ob1
   case st1=>simp[Spec.ok]
   case ob1=>
    intro env W' hG
    obtain⟨hc,hf⟩:=bcell hG
    repeat (refine obls_is ?_ ?_;unfold doesAt;go_simp;(try go_bits);(first|(refine⟨brefl _,?_⟩;rfl)|rfl);intro K hK;go_simp;refine hK _ ?_;clear hK K)
    refine obls_nil (λ_=>?_)
    obtain⟨r0,r1,r2,r3,r5⟩:=(HRC.out.later hG).cells
    have r6:w.heap.size+1+1<W'.heap.size:=by omega
    have HR2:=Lib.hid (((HRC.out.later hG).setX 0).setE 0)
    clear hc hf hG e1 e2 e3 t0 q0 q1 hw1
    go_wp2_with fail
    refine postM_cells (B:=w.heap.size) (v:=.tuple #[.int .i64 0,.int .i64 0]) (Marks.nil _ _) (λW' hk=>?_) (λW' hk=>?_)
    ·obtain⟨r0,r1,_⟩:=(HR2.out.kept hk (Nat.le_refl _)).cells
     exact results_cells2 rfl _ W' _ _ 0 0 .i64 .i64 rfl rfl (load_int _ _ _ r0) (load_err _ _ _ r1)
    ·exact⟨by rw[HE2.out],(HR2.out.kept hk (Nat.le_refl _)).bel⟩
  |false=>
   have HE2:=Lib.hid (show r=if crossB L (Fst fs L) ks A Bh m then(1,0)else(2,0)by rw[HE.out,if_neg (by simpa using hd)])
   go_wp2_with fail
   refine dag 22 (by kernel_rfl) (by kernel_rfl) (.is ?_::.is ?_::.is ?_::.is ?_::.is ?_::.is ?_::.is ?_::.is ?_::.is ?_::.is ?_::.is ?_::.is ?_::.is ?_::.is ?_::.is ?_::.is ?_::.is ?_::.is ?_::.is ?_::.is ?_::.is ?_::.is ?_::[]) rfl ?st2 ?ob2
   case st2=>simp[Spec.ok]
   case ob2=>
    intro env W' hG
    obtain⟨hc,hf⟩:=bcell hG
    repeat (refine obls_is ?_ ?_;unfold doesAt;go_simp;(try go_bits);(first|(refine⟨brefl _,?_⟩;rfl)|rfl);intro K hK;go_simp;refine hK _ ?_;clear hK K)
    refine obls_nil (λ_=>?_)
    have hT3:=HT2.out.later hG
    have hbt3:=Hbt2.out.later hG
    have hB13:=HB1.out.later (Below.later HG2.out hG)
    have t0':=hbt3.cell 0
    have tz':=hbt3.lt
    have HT3:=Lib.hid hT3
    have Hbt3:=Lib.hid hbt3
    have HB13:=Lib.hid hB13
    have HRC3:=Lib.hid (HRC.out.later hG)
    have HG3:=Lib.hid (Below.later HG2.out hG)
    clear hc hf hG e1 e2 e3 t0 q0 q1 hw1 hT3 hbt3 hB13 tz z0 z1 r0 r1 r2 r3 r5 r6 HT2 Hbt2 HRC HG2 HB1
    have HT0:=HT
    go_wp2_with fail
    clear t0' tz' tl2
    generalize W'=w3 at*
    refine(best_any T w3).mono ?_
    rintro e w4⟨rfl,hw4⟩
    have hb4:Below w3.heap.size w3 w4:=by rw[<-hw4];exact balloc (brefl _) _
    have d1:w4.cell? ⟨w3.heap.size,0,none⟩=some (.pointer (some ⟨T,0,none⟩)):=by rw[<-hw4];exact(Blk.new w3 _ _).cell 0
    have d3:w4.heap.size=w3.heap.size+1:=by rw[<-hw4];simp
    have hT4:=HT3.out.later hb4
    have HT4:=Lib.hid hT4
    have Hbt4:=Lib.hid (Hbt3.out.later hb4)
    have HB14:=Lib.hid (HB13.out.later hb4)
    have HRC4:=Lib.hid (HRC3.out.later hb4)
    have HG4:=Lib.hid (Below.later HG3.out hb4)
    have D1:=Lib.hid d1
    have D3:=Lib.hid d3
    have hz4:w1.heap.size<=w4.heap.size:=HG4.out.size
    have hzw:w.heap.size<=w4.heap.size:=HRC4.out.bel.size
    have hB1D:w.heap.size+1<w4.heap.size:=HB14.out.lt
    have hDl:w1.heap.size<w4.heap.size:=Hbt4.out.lt
    clear hw4 hb4 d1 d3 hT4 HT3 Hbt3 HB13 HRC3 HG3
    go_wp2_with fail
    refine range_best (B1:=w3.heap.size) (T:=T) (L:=L) (d:=10) (w:=w4) rfl HA.out HBh.out HT4.out (by rw[D3.out];omega) D1.out
     (λ(pre:List (KeptT L (Fst fs L) ks A Bh))W=>Below w1.heap.size w1 W/\Blk W w1.heap.size 65 #[.pointer (some ⟨T,0,none⟩)]/\Blk W (w.heap.size+1) 3 #[.int .i64 m]/\KeepD w4 W/\∀y∈pre,overB ks m y.1.1 y.1.2=false)
     (λc(pre:List (KeptT L (Fst fs L) ks A Bh))W=>c=.ret/\crossB L (Fst fs L) ks A Bh m=true/\RC 3 26 w W 1 0/\KeepD w4 W)
     ?hI ?hIx ?hIl ⟨HG4.out,Hbt4.out,HB14.out,KeepD.refl _,by simp⟩ ?assign ?body ?done ?stop
    case hI=>
     intro pre W W' hK h
     obtain⟨h1,h2,h3,h4,h6⟩:=h
     exact⟨h1.trans ⟨hK.os,hK.tape,hK.output,hK.size,λi hi=>hK.low i (by omega) (by have:=h1.size;omega)⟩,h2.kept hK,h3.kept hK,h4.kept hK,h6⟩
    case hIx=>exactλc pre W W' hK h=>⟨h.1,h.2.1,h.2.2.1.kept hK hzw,h.2.2.2.kept hK⟩
    case hIl=>exactλpre W W' hb h=>⟨Below.later h.1 hb,h.2.1.later hb,h.2.2.1.later hb,h.2.2.2.1.later hb,h.2.2.2.2⟩
    case assign=>
     intro l x W K hK
     gi_wp2
     exact hK
    case body=>
     intro l pre x Bx W hWs hBx hbx hI
     obtain⟨hbel,hbt,hb1,hKD,hpre⟩:=hI
     obtain⟨⟨f,k⟩,hS⟩:=x
     simp only at hbx ⊢
     have hck:=hS.2.1
     obtain⟨y,hy,hcb,hgd⟩:=canI_at hck
     have hybd:=Hk.out.bd hy
     obtain⟨wd,hwd⟩:∃wd:Nat,y.w=wd:=⟨y.w.toNat,by omega⟩
     have hle:=(canB_iff.1 hcb).1
     rw[hwd]at hle
     have hTW:=HT4.out
     have hov:overB ks m f k=(decide (f<m)&&decide (m<f+wd)):=by unfold overB;rw[hgd,hwd];rfl
     have HendW:=Lib.hid (show∀W',Below w1.heap.size w1 W'->Calls Tryz.prog 30 #[.pointer (some ⟨T,0,none⟩),.agg #[.int .i64 f,.int .i64 k]] W' λe w'=>e=.returned (.int .i64 (f+wd))/\Below W'.heap.size W' w' by
      intro W' hb
      have h5:=end_tab (HT0.out.later hb).tab.core Hk.out hy (f:Int) (by omega) (by omega)
      rw[hwd]at h5
      exact h5)
     have b0:=hbx.cell 0
     have b1:=hbx.cell 1
     have bz:=hbx.lt
     have t0:=hbt.cell 0
     have tz:=hbt.lt
     have u0:=hb1.cell 0
     have uz:=hb1.lt
     have hcr:overB ks m f k=true->crossB L (Fst fs L) ks A Bh m=true:=λh=>cross_iff.2 ⟨f,k,hS,h⟩
     have Hcr:=Lib.hid hcr
     have Hov:=Lib.hid hov
     have Hbel:=Lib.hid hbel
     have Hbt:=Lib.hid hbt
     have Hb1:=Lib.hid hb1
     have HKD:=Lib.hid hKD
     have Hpre:=Lib.hid hpre
     have hRCW:=HR.out.later hbel
     have HRCW:=Lib.hid hRCW
     clear hbel hbt hb1 hKD hpre hy hcb hgd hybd hwd hTW hov hcr hbx hck hRCW
     by_cases hfm:f<m
     ·have i1:decide ((f:Int)<(m:Int))=true:=by simpa using hfm
      cases hd2:decide ((m:Int)<(f:Int)+(wd:Int))with
      |true=>
       have Hc:=Lib.hid (Hcr.out (by rw[Hov.out];simp at hd2 ⊢;omega))
       unfold boxedAct
       gi_wp2_with fail
       refine dagIn 11 (lets_round l 7 _) (by kernel_rfl) (by kernel_rfl) (.is ?_::.is ?_::.is ?_::.is ?_::.is ?_::.is ?_::.is ?_::.is ?_::.is ?_::.is ?_::.is ?_::[]) rfl ?st4 ?ob4
       case st4=>simp[Spec.ok]
       case ob4=>
        intro env W' hG
        obtain⟨hc,hf⟩:=bcell hG
        iterate 7 (refine obls_is ?_ ?_;unfold doesAt;go_simp;(try go_bits);(first|(refine⟨brefl _,?_⟩;rfl)|rfl);intro K hK;go_simp;refine hK _ ?_;clear hK K)
        refine obls_is ?_ ?_
        ·unfold doesAt
         go_simp
         refine(HendW.out W' (Below.later Hbel.out hG)).mono ?_
         rintro e w1⟨rfl,hb1⟩
         refine⟨?_,hb1⟩
         rfl
        intro K hK
        go_simp
        refine hK _ ?_
        clear hK K
        iterate 3 (refine obls_is ?_ ?_;unfold doesAt;go_simp;(try go_bits);(first|(refine⟨brefl _,?_⟩;rfl)|rfl);intro K hK;go_simp;refine hK _ ?_;clear hK K)
        refine obls_nil (λ_=>?_)
        clear hc hf
        obtain⟨r0,r1,r2,r3,r4⟩:=(HRCW.out.later hG).cells
        have r5:w.heap.size+1+1<W'.heap.size:=by omega
        have HRC5:=Lib.hid (((HRCW.out.later hG).setX 1).setE 0)
        have HG:=Lib.hid hG
        clear hG b0 b1 t0 u0
        gi_wp2
        exact⟨((KeepsFrom.later HG.out).trans (KeepsFrom.set _ _ _)).trans (KeepsFrom.set _ _ _),rfl,Hc.out,HRC5.out,((HKD.out.later HG.out).set _ _).set _ _⟩
      |false=>
       have Hc:=Lib.hid (show overB ks m f k=false by rw[Hov.out];simp at hd2 ⊢;omega)
       unfold boxedAct
       gi_wp2_with fail
       refine dagIn 11 (lets_round l 7 _) (by kernel_rfl) (by kernel_rfl) (.is ?_::.is ?_::.is ?_::.is ?_::.is ?_::.is ?_::.is ?_::.is ?_::.is ?_::.is ?_::.is ?_::[]) rfl ?st5 ?ob5
       case st5=>simp[Spec.ok]
       case ob5=>
        intro env W' hG
        obtain⟨hc,hf⟩:=bcell hG
        iterate 7 (refine obls_is ?_ ?_;unfold doesAt;go_simp;(try go_bits);(first|(refine⟨brefl _,?_⟩;rfl)|rfl);intro K hK;go_simp;refine hK _ ?_;clear hK K)
        refine obls_is ?_ ?_
        ·unfold doesAt
         go_simp
         refine(HendW.out W' (Below.later Hbel.out hG)).mono ?_
         rintro e w1⟨rfl,hb1⟩
         refine⟨?_,hb1⟩
         rfl
        intro K hK
        go_simp
        refine hK _ ?_
        clear hK K
        iterate 3 (refine obls_is ?_ ?_;unfold doesAt;go_simp;(try go_bits);(first|(refine⟨brefl _,?_⟩;rfl)|rfl);intro K hK;go_simp;refine hK _ ?_;clear hK K)
        refine obls_nil (λ_=>?_)
        clear hc hf
        gi_wp2
        refine⟨KeepsFrom.later hG,walks_later hG,Below.later Hbel.out hG,Hbt.out.later hG,Hb1.out.later hG,HKD.out.later hG,λz hz=>?_⟩
        rcases List.mem_append.1 hz with hz|hz
        ·exact Hpre.out z hz
        ·rw[List.mem_singleton.1 hz];exact Hc.out
     ·have i1:decide ((f:Int)<(m:Int))=false:=by simpa using hfm
      have Hc:=Lib.hid (show overB ks m f k=false by rw[Hov.out];simp[hfm])
      unfold boxedAct
      gi_wp2_with fail
      refine dagIn 11 (lets_round l 7 _) (by kernel_rfl) (by kernel_rfl) (.is ?_::.is ?_::.is ?_::.is ?_::.is ?_::.is ?_::.is ?_::.is ?_::.is ?_::.is ?_::.is ?_::[]) rfl ?st6 ?ob6
      case st6=>simp[Spec.ok]
      case ob6=>
       intro env W' hG
       obtain⟨hc,hf⟩:=bcell hG
       repeat (refine obls_is ?_ ?_;unfold doesAt;go_simp;(try go_bits);(first|(refine⟨brefl _,?_⟩;rfl)|rfl);intro K hK;go_simp;refine hK _ ?_;clear hK K)
       refine obls_nil (λ_=>?_)
       clear hc hf
       gi_wp2
       refine⟨KeepsFrom.later hG,walks_later hG,Below.later Hbel.out hG,Hbt.out.later hG,Hb1.out.later hG,HKD.out.later hG,λz hz=>?_⟩
       rcases List.mem_append.1 hz with hz|hz
       ·exact Hpre.out z hz
       ·rw[List.mem_singleton.1 hz];exact Hc.out
    case done=>
     intro D' ys W5 hD' hS hI5 hd'
     obtain⟨h1,h2,h3,h4,hno⟩:=hI5
     have HE3:=Lib.hid (show r=(2,0)by
      rw[HE2.out,if_neg]
      intro hc
      obtain⟨f,k,hk,ho⟩:=cross_iff.1 hc
      obtain⟨z,hz,he⟩:=hS f k hk
      have:=hno z hz
      rw[he]at this
      rw[this]at ho;cases ho)
     have hRC5:=HR.out.later h1
     obtain⟨r0,r1,r2,r3,r4⟩:=hRC5.cells
     have r5:w.heap.size+1+1<W5.heap.size:=by omega
     have HR2:=Lib.hid ((hRC5.setX 2).setE 0)
     have hmk:Marks w.heap.size W5 [mark D']:=(Marks.nil w.heap.size w4).cons hD' hzw hd' (λk c _ hk=>h4 k c hk)
     have Hmk:=Lib.hid ((hmk.setCell ⟨w.heap.size+1+1,0,none⟩ (.int .i64 2)).setCell ⟨w.heap.size+1+1+1,0,none⟩ (.int .i64 0))
     clear h1 h2 h3 h4 hno hRC5 hmk hd'
     go_wp2_with fail
     refine postM_cells (B:=w.heap.size) (v:=.tuple #[.int .i64 2,.int .i64 0]) Hmk.out (λW' hk=>?_) (λW' hk=>?_)
     ·obtain⟨r0,r1,_⟩:=(HR2.out.kept hk (Nat.le_refl _)).cells
      exact results_cells2 rfl _ W' _ _ 2 0 .i64 .i64 rfl rfl (load_int _ _ _ r0) (load_err _ _ _ r1)
     ·exact⟨by rw[HE3.out],(HR2.out.kept hk (Nat.le_refl _)).bel⟩
    case stop=>
     intro D' c pre W5 hD' hI5 hd'
     obtain⟨rfl,hc,hRC5,h4⟩:=hI5
     have HE3:=Lib.hid (show r=(1,0)by rw[HE2.out,if_pos hc])
     have hmk:Marks w.heap.size W5 [mark D']:=(Marks.nil w.heap.size w4).cons hD' hzw hd' (λk c _ hk=>h4 k c hk)
     have HR2:=Lib.hid hRC5
     have Hmk:=Lib.hid hmk
     clear hc hRC5 h4 hmk hd'
     go_wp2_with fail
     refine postM_cells (B:=w.heap.size) (v:=.tuple #[.int .i64 1,.int .i64 0]) Hmk.out (λW' hk=>?_) (λW' hk=>?_)
     ·obtain⟨r0,r1,_⟩:=(HR2.out.kept hk (Nat.le_refl _)).cells
      exact results_cells2 rfl _ W' _ _ 1 0 .i64 .i64 rfl rfl (load_int _ _ _ r0) (load_err _ _ _ r1)
     ·exact⟨by rw[HE3.out],(HR2.out.kept hk (Nat.le_refl _)).bel⟩
end Go.Proofs.YtlclnbhjjdcnkaaGreatDoor.C
