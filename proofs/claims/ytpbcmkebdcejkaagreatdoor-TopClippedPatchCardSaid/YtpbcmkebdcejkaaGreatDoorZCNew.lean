/- The worths of a table: lists in cells, ranges over places, faults before a place. -/
import Derived.Test.YtpbcmkebdcejkaaGreatDoorZCTable
import Derived.RangeFuncNested
import Derived.RangeFuncBound
import Derived.RangeFuncCalls
import Derived.RangeFuncLeaves
import Derived.Shelf.RegionOpen
import Derived.OwnWalkIn
import Derived.TacticsInMore
import Derived.LoopNIn
import Derived.LoopIn
import Derived.Deep.LoopGhost
namespace Go.Proofs.YtpbcmkebdcejkaaGreatDoor.C
open Go.RowKit Go.Shelf
attribute [local go_sem] Oper.semAt_some
def canI(L:Nat)(F:Nat->Int)(ks:List Kd)(fr i:Nat):Bool:=match ks[i]? with|some x=>canB L F x fr|none=>false
abbrev Ki(L:Nat)(F:Nat->Int)(ks:List Kd)(fr:Nat):={i:Nat // canI L F ks fr i=true}
def kiTo(L:Nat)(F:Nat->Int)(ks:List Kd)(fr k:Nat):List (Ki L F ks fr):=(List.range k).filterMap λi=>if h:canI L F ks fr i=true then some ⟨i,h⟩else none
theorem kiTo_yes{L:Nat}{F:Nat->Int}{ks:List Kd}{fr k:Nat}(h:canI L F ks fr k=true):kiTo L F ks fr (k+1)=kiTo L F ks fr k++[⟨k,h⟩]:=by
 simp[kiTo,List.range_succ,h]
theorem kiTo_no{L:Nat}{F:Nat->Int}{ks:List Kd}{fr k:Nat}(h:canI L F ks fr k=false):kiTo L F ks fr (k+1)=kiTo L F ks fr k:=by
 simp[kiTo,List.range_succ,h]
theorem kiTo_len(L:Nat)(F:Nat->Int)(ks:List Kd)(fr k:Nat):(kiTo L F ks fr k).length<=k:=by
 unfold kiTo
 exact Nat.le_trans (List.length_filterMap_le _ _) (by simp)
theorem kiTo_val(L:Nat)(F:Nat->Int)(ks:List Kd)(fr k:Nat):(kiTo L F ks fr k).map Subtype.val=(List.range k).filter (canI L F ks fr):=by
 induction k with
 |zero=>rfl
 |succ k ih=>
  cases h:canI L F ks fr k with
  |true=>rw[kiTo_yes h,List.map_append,ih,List.range_succ,List.filter_append];simp[h]
  |false=>rw[kiTo_no h,ih,List.range_succ,List.filter_append];simp[h]
structure KpT(B1 B2 T:Nat)(KA:Option Addr)(W W':World):Prop where
 size:W.heap.size<=W'.heap.size
 cell:∀b o,((b=T/\o<28)\/(b≠T/\∃o',KA=some ⟨b,o',none⟩))->W'.cell? ⟨b,o,none⟩=W.cell? ⟨b,o,none⟩
 one:∀o,W'.cell? ⟨B1,o,none⟩=W.cell? ⟨B1,o,none⟩
 two:∀o,W'.cell? ⟨B2,o,none⟩=W.cell? ⟨B2,o,none⟩
section
variable{B1 B2 T:Nat}{KA:Option Addr}{A B C:World}
theorem KpT.refl(W:World):KpT B1 B2 T KA W W:=⟨Nat.le_refl _,λ_ _ _=>rfl,λ_=>rfl,λ_=>rfl⟩
theorem KpT.trans(h:KpT B1 B2 T KA A B)(k:KpT B1 B2 T KA B C):KpT B1 B2 T KA A C:=
 ⟨Nat.le_trans h.size k.size,λb o hb=>(k.cell b o hb).trans (h.cell b o hb),λo=>(k.one o).trans (h.one o),λo=>(k.two o).trans (h.two o)⟩
theorem KpT.of_below{m:Nat}(h:Below m A B)(h1:B1<m)(h2:B2<m)(hT:T<m)(hK:∀b o,KA=some ⟨b,o,none⟩->b<m):KpT B1 B2 T KA A B:=
 ⟨h.size,λb o hb=>h.cell (p:=⟨b,o,none⟩) (by
   show b<m
   rcases hb with⟨rfl,_⟩|⟨_,o',h'⟩
   ·exact hT
   ·exact hK b o' h'),λo=>h.cell (p:=⟨B1,o,none⟩) h1,λo=>h.cell (p:=⟨B2,o,none⟩) h2⟩
end
theorem grown_none{W W':World}(h:Below W.heap.size W W'):W.grownBy W' none:=⟨h.os,h.tape,h.output,h.size,λk hk _=>h.block k hk⟩
set_option maxRecDepth 100000 in
set_option maxHeartbeats 2000000 in
theorem sheets1_in(n:Nat)(l B1 B2 T n₀ L:Nat)(FA:Option Addr)(fn fc:Nat)(KA:Option Addr)(kc:Nat)(ks:List Kd)(F:Nat->Int)(fr:Nat)(hk:KOk ks)(hL:L<=24)(hF:∀j,0<=F j/\F j<=24)(hfr:fr<=24)
 (hne:∀b o,KA=some ⟨b,o,none⟩->b≠T)(hB1:B1<n₀)(hB2:B2<n₀)(J Jx:List (Ki L F ks fr)->World->Prop)(W:World)(hn₀:n₀<=W.heap.size)
 (hJ:AbidesFrom W.heap.size J)
 (hY:∀pre x W1,J pre W1->pre.length<ks.length->YieldAt Fence.wide (n-1) Tryz.prog l #[.agg #[.int .i64 fr,.int .i64 (x.1:Nat)]] W1 λe W'=>
   (e=.returned (.bool true)/\J (pre++[x]) W'/\KpT B1 B2 T KA W1 W')\/(e=.returned (.bool false)/\Jx (pre++[x]) W'))
 (h1:W.cell? ⟨B1,0,none⟩=some (.pointer (some ⟨T,0,none⟩)))(h2:W.cell? ⟨B2,0,none⟩=some (.int .i64 fr))(hC:TabC W n₀ T L FA fn fc KA kc ks F)(h0:J [] W):
 CallsIn Fence.wide n Tryz.prog 211 #[.func (.yield l) #[] #[],.pointer (some ⟨B1,0,none⟩),.pointer (some ⟨B2,0,none⟩)] W λe W'=>(∃v,e=.returned v)/\
  ((∃ys,ys=kiTo L F ks fr ks.length/\J ys W')\/(∃pre,(∃k,k<=ks.length/\pre=kiTo L F ks fr k)/\Jx pre W')):=by
 have hkl:ks.length<=6:=hk.2.1
 have q1:=hC.len
 have q2:=hC.knd
 have Hc:=Lib.hid hC
 have HY:=Lib.hid hY
 have Hne:=Lib.hid hne
 have Hk:=Lib.hid hk
 have HF:=Lib.hid hF
 have HJ:=Lib.hid hJ
 clear hY hC hne hk hF hJ
 refine callsIn_of_wp Tryz.func211 rfl trivial ?_ rfl
 simp only[Tryz.ntmps211,List.size_toArray,List.length_cons,List.length_nil,Nat.reduceAdd,Nat.reduceSub,Array.replicate_succ,Array.replicate_zero,List.push_toArray,List.append_toArray,List.nil_append,List.cons_append]
 gi_wp2
 gi_loopw [11] (λi wr=>∃k:Nat,k<=ks.length/\i=.int .i64 k/\J (kiTo L F ks fr k) wr/\KpT B1 B2 T KA W wr)
  (λi _=>ks.length-(intOf i).toNat)
 case atStart=>exact⟨0,Nat.zero_le _,rfl,h0,KpT.refl _⟩
 case round=>
  obtain⟨k,hk,rfl,hJs,hnx⟩:=hrel
  have r1:=(hnx.one 0).trans h1
  have r2:=(hnx.two 0).trans h2
  have hCr:=Hc.out.keep hnx.cell Hne.out
  have hsz:n₀<=wr.heap.size:=Nat.le_trans hn₀ hnx.size
  have hs1:B1<wr.heap.size:=by omega
  have hs2:B2<wr.heap.size:=by omega
  have HKb:=Lib.hid (show∀b o,KA=some ⟨b,o,none⟩->b<wr.heap.size fromλb o h=>by obtain⟨b',o',hA,hB,_⟩:=Hc.out.kds.at_ (by have:=Hk.out.1;omega);rw[h]at hA;cases hA;omega)
  have HJs:=Lib.hid hJs
  have Hnx:=Lib.hid hnx
  have HCr:=Lib.hid (hCr.more hsz)
  clear hJs hnx hCr q1 q2 h1 h2
  by_cases hlt:k<ks.length
  ·obtain⟨x,hx⟩:∃x,ks[k]? =some x:=⟨_,List.getElem?_eq_getElem hlt⟩
   have hcan:=Lib.hid (can_tab (w:=wr.alloc (.cells #[.int .i64 fr,.int .i64 k] 188)) (HCr.out.later (balloc (brefl _) _)) Hk.out hL HF.out hx fr hfr)
   have hJ1:=HJ.out _ _ _ none HJs.out (World.grownBy_alloc wr (.cells #[.int .i64 fr,.int .i64 k] 188) none) (λr e=>by cases e)
   have HJ1:=Lib.hid hJ1
   clear hJ1
   cases hc:canI L F ks fr k with
   |true=>
    have hcb:canB L F x fr=true:=by simpa[canI,hx]using hc
    rw[hcb]at hcan
    gi_wp2_with fail
    refine⟨trivial,λh=>(by simp[Fence.wide]at h),?_⟩
    refine(callsIn_wide.2 hcan.out).mono ?_
    rintro e w1⟨rfl,hb1⟩
    have hz:wr.heap.size<w1.heap.size:=by have:=hb1.size;simp at this;omega
    have t0:w1.cell? ⟨wr.heap.size,0,none⟩=some (.int .i64 fr):=(hb1.cell (p:=⟨wr.heap.size,0,none⟩) (by simp)).trans (by go_simp)
    have t1:w1.cell? ⟨wr.heap.size,1,none⟩=some (.int .i64 k):=(hb1.cell (p:=⟨wr.heap.size,1,none⟩) (by simp)).trans (by go_simp)
    have hJ2:=HJ.out _ _ _ none HJ1.out (grown_none hb1) (λr e=>by cases e)
    have Hb1:=Lib.hid (Below.later (balloc (brefl wr) _) hb1)
    obtain⟨fn',tmps',assign',body',hy,hR⟩:=HY.out (kiTo L F ks fr k) ⟨k,hc⟩ w1 hJ2 (Nat.lt_of_le_of_lt (kiTo_len L F ks fr k) hlt)
    dsimp only at hy
    have HR:=Lib.hid hR
    clear hb1 hJ2 hR
    gi_wp2
    refine⟨λh=>(by simp[Fence.wide]at h),?_⟩
    refine HR.out.mono ?_
    rintro e W3(⟨rfl,hJ3,hk3⟩|⟨rfl,hJx3⟩)
    ·have HJ3:=Lib.hid hJ3
     have Hk3:=Lib.hid hk3
     clear hJ3 hk3
     gi_wp2
     go_roundw
     case rel=>exact⟨k+1,by omega,by go_num,by rw[kiTo_yes hc];exact HJ3.out,(Hnx.out.trans (KpT.of_below Hb1.out hs1 hs2 (Nat.lt_of_lt_of_le Hc.out.lt hsz) HKb.out)).trans Hk3.out⟩
     case measure=>simp[intOf];omega
    ·have HJx3:=Lib.hid hJx3
     clear hJx3
     gi_wp2
     refine bodyPost_ret (results_none rfl _ _ _) rfl ?_
     exact⟨⟨_,rfl⟩,.inr ⟨_,⟨k+1,by omega,(kiTo_yes hc).symm⟩,HJx3.out⟩⟩
   |false=>
    have hcb:canB L F x fr=false:=by simpa[canI,hx]using hc
    rw[hcb]at hcan
    gi_wp2_with fail
    refine⟨trivial,λh=>(by simp[Fence.wide]at h),?_⟩
    refine(callsIn_wide.2 hcan.out).mono ?_
    rintro e w1⟨rfl,hb1⟩
    have hJ2:=HJ.out _ _ _ none HJ1.out (grown_none hb1) (λr e=>by cases e)
    have Hb1:=Lib.hid (Below.later (balloc (brefl wr) _) hb1)
    have HJ2:=Lib.hid hJ2
    clear hb1 hJ2
    gi_wp2
    refine⟨λ_ h=>(by cases h),?_⟩
    gi_wp2
    go_roundw
    case rel=>exact⟨k+1,by omega,by go_num,by rw[kiTo_no hc];exact HJ2.out,Hnx.out.trans (KpT.of_below Hb1.out hs1 hs2 (Nat.lt_of_lt_of_le Hc.out.lt hsz) HKb.out)⟩
    case measure=>simp[intOf];omega
  ·obtain rfl:k=ks.length:=by omega
   gi_wp2
   go_end0
   exact⟨⟨_,rfl⟩,.inl ⟨_,rfl,HJs.out⟩⟩
theorem sheets_stops(n:Nat)(B1 B2 T n₀ L:Nat)(FA:Option Addr)(fn fc:Nat)(KA:Option Addr)(kc:Nat)(ks:List Kd)(F:Nat->Int)(fr:Nat)(hk:KOk ks)(hL:L<=24)(hF:∀j,0<=F j/\F j<=24)(hfr:fr<=24)
 (hne:∀b o,KA=some ⟨b,o,none⟩->b≠T)(hB1:B1<n₀)(hB2:B2<n₀)(w:World)(hn₀:n₀<=w.heap.size)
 (h1:w.cell? ⟨B1,0,none⟩=some (.pointer (some ⟨T,0,none⟩)))(h2:w.cell? ⟨B2,0,none⟩=some (.int .i64 fr))(hC:TabC w n₀ T L FA fn fc KA kc ks F):
 SeqStopsK Fence.wide n Tryz.prog 211 #[.pointer (some ⟨B1,0,none⟩),.pointer (some ⟨B2,0,none⟩)] (λx:Ki L F ks fr=>#[.agg #[.int .i64 fr,.int .i64 (x.1:Nat)]]) (KpT B1 B2 T KA)
  (λys=>ys=kiTo L F ks fr ks.length) (λpre=>∃k,k<=ks.length/\pre=kiTo L F ks fr k) ks.length w:=λl J Jx W hW hJ _ hY h0=>
 sheets1_in n l B1 B2 T n₀ L FA fn fc KA kc ks F fr hk hL hF hfr hne hB1 hB2 J Jx W (Nat.le_trans hn₀ hW.size) hJ hY
  ((hW.cell (p:=⟨B1,0,none⟩) (by show B1<_;omega)).trans h1) ((hW.cell (p:=⟨B2,0,none⟩) (by show B2<_;omega)).trans h2) (hC.below (hW.mono hn₀)) h0
set_option maxHeartbeats 400000 in
theorem sheets_any(T fr:Nat)(w:World):
 Calls Tryz.prog 125 #[.pointer (some ⟨T,0,none⟩),.int .i64 fr] w λe w'=>
  e=.returned (.func (.func 211) #[] #[.pointer (some ⟨w.heap.size,0,none⟩),.pointer (some ⟨w.heap.size+1,0,none⟩)])/\
  (w.alloc (.cells #[.pointer (some ⟨T,0,none⟩)] 44)).alloc (.cells #[.int .i64 fr] 3)=w':=by
 go_enter Tryz.func125,Tryz.ntmps125
 go_wp2
 go_ret
 exact⟨rfl,rfl⟩
end Go.Proofs.YtpbcmkebdcejkaaGreatDoor.C
namespace Go.Proofs.YtpbcmkebdcejkaaGreatDoor.C
open Go.RowKit Go.Shelf
def mark(D:Nat):Deferred:={target:=.collected D,args:=#[]}
def Marks(B:Nat)(W:World)(ds:List Deferred):Prop:=∃Ds:List Nat,ds=Ds.map mark/\Ds.Nodup/\∀D∈Ds,B<=D/\W.heap[D]? =some (.deferred (some []))
theorem Marks.nil(B:Nat)(W:World):Marks B W []:=⟨[],rfl,List.nodup_nil,by simp⟩
structure Kept(B:Nat)(W W':World):Prop where
 os:W'.os=W.os
 tape:W'.tape=W.tape
 output:W'.output=W.output
 size:W.heap.size<=W'.heap.size
 low:∀k,k<B->k<W.heap.size->W'.heap[k]? =W.heap[k]?
 cells:∀(k:Nat)(c:Array Value)(e:TypeId)(f:Nat×Nat),W.heap[k]? =some (.cells c e f)->W'.heap[k]? =some (.cells c e f)
theorem Kept.refl(B:Nat)(W:World):Kept B W W:=⟨rfl,rfl,rfl,Nat.le_refl _,λ_ _ _=>rfl,λ_ _ _ _ h=>h⟩
theorem Kept.trans{B:Nat}{X Y Z:World}(h:Kept B X Y)(k:Kept B Y Z):Kept B X Z:=
 ⟨k.os.trans h.os,k.tape.trans h.tape,k.output.trans h.output,Nat.le_trans h.size k.size,λi hB hi=>(k.low i hB (Nat.lt_of_lt_of_le hi h.size)).trans (h.low i hB hi),λi c e f hi=>k.cells i c e f (h.cells i c e f hi)⟩
theorem Kept.of_grown{B:Nat}{W W':World}{row:Option Nat}(hg:W.grownBy W' row)(hr:∀r,row=some r->B<=r/\∃o:Obj,W.heap[r]? =some o/\o.isCells=false):Kept B W W':=by
 refine⟨hg.os,hg.tape,hg.output,hg.size,λk hB hk=>hg.block k hk (λe=>?_),λk c e f hk=>?_⟩
 ·have:=(hr k e.symm).1;omega
 ·refine(hg.block k (Array.getElem?_eq_some_iff.1 hk).1 (λe'=>?_)).trans hk
  obtain⟨_,o,ho,hc⟩:=hr k e'.symm
  rw[hk]at ho;cases ho;simp[Obj.isCells]at hc
theorem leavesM_marks{P:Program}{F:Fence}{n:Nat}{fn:Func}{tmps:Array Value}{R:Ending->World->Prop}{B:Nat}:∀(ds:List Deferred)(W:World)(v:Value),Marks B W ds->
 (∀W',(results fn tmps).run P W'=.ok v W')->(∀W',Kept B W W'->R (.returned v) W')->LeavesInM F n P fn tmps R ds .returning W:=by
 intro ds
 induction ds with
 |nil=>
  intro W v _ hr hR
  exact⟨v,hr W,hR W (Kept.refl B W)⟩
 |cons d ds ih=>
  intro W v hm hr hR
  obtain⟨Ds,hds,hnd,hD⟩:=hm
  cases Ds with
  |nil=>simp at hds
  |cons D Ds=>
   simp only[List.map_cons,List.cons.injEq]at hds
   obtain⟨rfl,rfl⟩:=hds
   obtain⟨hDB,hDh⟩:=hD D (by simp)
   refine⟨by simp,.inl ⟨D,W.putObj D (.deferred none),rfl,run_takeDeferred hDh,?_⟩⟩
   have hk:Kept B W (W.putObj D (.deferred none)):=Kept.of_grown (grownBy_putObj' W D _) (λr e=>by cases e;exact⟨hDB,_,hDh,rfl⟩)
   refine ih _ v ⟨Ds,rfl,(List.nodup_cons.1 hnd).2,λE hE=>⟨(hD E (by simp[hE])).1,?_⟩⟩ hr (λW' hk'=>hR W' (hk.trans hk'))
   have hne:E≠D:=λe=>(List.nodup_cons.1 hnd).1 (e▸hE)
   rw[World.putObj_heap_other hne]
   exact(hD E (by simp[hE])).2
theorem calls_of_marks{P:Program}{f:FuncId}{fn:Func}{c:Code}{args:Array Value}{w:World}{R:Ending->World->Prop}(hf:P.funcs[f]? =some fn) (hb:fn.body=some c)
 (h:c.wp P (bodyPostM Fence.wide 9 P fn R) {tmps:=args++Array.replicate (fn.ntmps-args.size) undef,defers:=[]} w):Calls P f args w R:=
 (callsIn_wide (n:=9)).1 (callsIn_of_wp_marks hf hb trivial (wpIn_wide.2 h))
theorem postM_ret{P:Program}{fn:Func}{R:Ending->World->Prop}{a:Act}{B:Nat}{W:World}{v:Value}(hm:Marks B W a.defers)(hr:∀W',(results fn a.tmps).run P W'=.ok v W')(hR:∀W',Kept B W W'->R (.returned v) W'):bodyPostM Fence.wide 9 P fn R .ret a W:=
 leavesM_marks _ _ _ hm hr hR
def upd(F:Nat->Int)(j:Nat)(v:Int):Nat->Int:=λk=>if k=j then v else F k
def tabArr(a b c:Value)(F A Bh:Nat->Int):Array Value:=(a::b::c::((List.range 25).map (λj=>Value.int .i64 (F j))++((List.range 25).map (λj=>Value.int .i64 (A j))++(List.range 25).map (λj=>Value.int .i64 (Bh j))))).toArray
section
variable{a b c:Value}{F A Bh:Nat->Int}
theorem tabArr_size:(tabArr a b c F A Bh).size=78:=by simp[tabArr]
theorem tabArr_F{j:Nat}(h:j<25):(tabArr a b c F A Bh)[3+j]? =some (.int .i64 (F j)):=by
 simp only[tabArr,List.getElem?_toArray]
 rw[show 3+j=j+1+1+1 from by omega,List.getElem?_cons_succ,List.getElem?_cons_succ,List.getElem?_cons_succ,List.getElem?_append_left (by simpa using h)]
 simp[h]
theorem tabArr_A{j:Nat}(h:j<25):(tabArr a b c F A Bh)[28+j]? =some (.int .i64 (A j)):=by
 simp only[tabArr,List.getElem?_toArray]
 rw[show 28+j=25+j+1+1+1 from by omega,List.getElem?_cons_succ,List.getElem?_cons_succ,List.getElem?_cons_succ,List.getElem?_append_right (by simp),List.getElem?_append_left (by simp;omega)]
 simp[h]
theorem tabArr_B{j:Nat}(h:j<25):(tabArr a b c F A Bh)[53+j]? =some (.int .i64 (Bh j)):=by
 simp only[tabArr,List.getElem?_toArray]
 rw[show 53+j=50+j+1+1+1 from by omega,List.getElem?_cons_succ,List.getElem?_cons_succ,List.getElem?_cons_succ,List.getElem?_append_right (by simp;omega),List.getElem?_append_right (by simp;omega)]
 simp only[List.length_map,List.length_range]
 rw[show 50+j-25-25=j from by omega]
 simp[h]
theorem range_upd(F:Nat->Int)(j:Nat)(v:Int):(List.range 25).map (λk=>Value.int .i64 (upd F j v k))=((List.range 25).map (λk=>Value.int .i64 (F k))).set j (.int .i64 v):=by
 apply List.ext_getElem
 ·simp
 ·intro i h1 h2
  simp only[List.getElem_map,List.getElem_range,List.getElem_set]
  by_cases e:i=j
  ·simp[upd,e]
  ·rw[if_neg (λh=>e h.symm)];simp[upd,e]
theorem tabArr_setF{j:Nat}(h:j<25)(v:Int):(tabArr a b c F A Bh).setIfInBounds (3+j) (.int .i64 v)=tabArr a b c (upd F j v) A Bh:=by
 simp only[tabArr,List.setIfInBounds_toArray]
 rw[show 3+j=j+1+1+1 from by omega,List.set_cons_succ,List.set_cons_succ,List.set_cons_succ,List.set_append_left _ _ (by simpa using h),range_upd]
theorem tabArr_setA{j:Nat}(h:j<25)(v:Int):(tabArr a b c F A Bh).setIfInBounds (28+j) (.int .i64 v)=tabArr a b c F (upd A j v) Bh:=by
 simp only[tabArr,List.setIfInBounds_toArray]
 rw[show 28+j=25+j+1+1+1 from by omega,List.set_cons_succ,List.set_cons_succ,List.set_cons_succ,List.set_append_right _ _ (by simp),List.set_append_left _ _ (by simp;omega),range_upd]
 simp
theorem tabArr_setB{j:Nat}(h:j<25)(v:Int):(tabArr a b c F A Bh).setIfInBounds (53+j) (.int .i64 v)=tabArr a b c F A (upd Bh j v):=by
 simp only[tabArr,List.setIfInBounds_toArray]
 rw[show 53+j=50+j+1+1+1 from by omega,List.set_cons_succ,List.set_cons_succ,List.set_cons_succ,List.set_append_right _ _ (by simp;omega),List.set_append_right _ _ (by simp;omega),range_upd]
 simp only[List.length_map,List.length_range]
 rw[show 50+j-25-25=j from by omega]
end
def Blk(W:World)(b:Nat)(t:TypeId)(cs:Array Value):Prop:=W.heap[b]? =some (.cells cs t (0,0))
section
variable{W W':World}{b:Nat}{t:TypeId}{cs:Array Value}
theorem Blk.lt(h:Blk W b t cs):b<W.heap.size:=(Array.getElem?_eq_some_iff.1 h).1
theorem Blk.cell(h:Blk W b t cs)(o:Nat):W.cell? ⟨b,o,none⟩=cs[o]? :=by simp[World.cell?,show W.heap[b]? =_ from h]
theorem Blk.frozen(h:Blk W b t cs)(o:Nat):W.frozen? ⟨b,o,none⟩=false:=by simp[World.frozen?,show W.heap[b]? =_ from h]
theorem Blk.below{B:Nat}(h:Blk W b t cs)(hb:Below B W W')(hB:b<B):Blk W' b t cs:=(hb.block b hB).trans h
theorem Blk.later(h:Blk W b t cs)(hb:Below W.heap.size W W'):Blk W' b t cs:=h.below hb h.lt
theorem Blk.alloc(h:Blk W b t cs)(o:Obj):Blk (W.alloc o) b t cs:=(Below.heap_alloc W o b h.lt).trans h
theorem Blk.new(W:World)(t:TypeId)(cs:Array Value):Blk (W.alloc (.cells cs t)) W.heap.size t cs:=World.alloc_heap_new W _
theorem Blk.other(h:Blk W b t cs){p:Addr}(hp:p.block≠b)(u:Value):Blk (W.setCell p u) b t cs:=(Below.heap_setCell W p u b (λe=>hp e.symm)).trans h
theorem Blk.set(h:Blk W b t cs)(o:Nat)(u:Value):Blk (W.setCell ⟨b,o,none⟩ u) b t (cs.setIfInBounds o u):=by
 unfold Blk at h ⊢
 simp[World.setCell,Array.getElem?_modify,h]
theorem Blk.apart{b':Nat}{t':TypeId}{cs':Array Value}(h:Blk W b t cs)(h':Blk W b' t' cs')(ht:t≠t'):b≠b':=by
 rintro rfl
 unfold Blk at h h'
 rw[h]at h'
 simp at h'
 exact ht h'.2
theorem Blk.kept{B:Nat}(h:Blk W b t cs)(hk:Kept B W W'):Blk W' b t cs:=hk.cells b cs t (0,0) h
end
theorem fits_nil:Fits [] []:=rfl
theorem fits_some{v:Value}{ps:List (Option Value)}{l:List Value}(h:Fits ps l):Fits (some v::ps) (v::l):=⟨l,rfl,h⟩
theorem fits_none{u:Value}{ps:List (Option Value)}{l:List Value}(h:Fits ps l):Fits (none::ps) (u::l):=⟨u,l,rfl,h⟩
def fillP:List (Option Value)->(Nat->Value)->Nat->List Value
 |[],_,_=>[]
 |some v::ps,f,i=>v::fillP ps f (i+1)
 |none::ps,f,i=>f i::fillP ps f (i+1)
theorem fillP_congr:∀(ps:List (Option Value))(f g:Nat->Value)(i:Nat),(∀k,i<=k->f k=g k)->fillP ps f i=fillP ps g i
 |[],_,_,_,_=>rfl
 |some _::ps,f,g,i,h=>by simp only[fillP];rw[fillP_congr ps f g (i+1) (λk hk=>h k (by omega))]
 |none::ps,f,g,i,h=>by simp only[fillP];rw[h i (Nat.le_refl _),fillP_congr ps f g (i+1) (λk hk=>h k (by omega))]
theorem fits_fillI:∀(ps:List (Option Value))(l:List Value)(i:Nat),Fits ps l->∃f:Nat->Value,l=fillP ps f i
 |[],l,i,h=>⟨λ_=>undef,h⟩
 |some v::ps,l,i,h=>by
  obtain⟨l',rfl,h'⟩:=h
  obtain⟨f,rfl⟩:=fits_fillI ps l' (i+1) h'
  exact⟨f,rfl⟩
 |none::ps,l,i,h=>by
  obtain⟨u,l',rfl,h'⟩:=h
  obtain⟨f,rfl⟩:=fits_fillI ps l' (i+1) h'
  refine⟨λk=>if k=i then u else f k,?_⟩
  simp only[fillP,if_true]
  rw[fillP_congr ps f (λk=>if k=i then u else f k) (i+1) (λk hk=>by simp[show k≠i from by omega])]
theorem fits_act{ps:List (Option Value)}{a:Act}(h:Fits ps a.tmps.toList):∃f:Nat->Value,a={tmps:=(fillP ps f 0).toArray,defers:=a.defers}:=by
 obtain⟨f,hf⟩:=fits_fillI ps _ 0 h
 exact⟨f,by rw[<-hf]⟩
theorem loop_n{P:Program}{Q:Exit->Act->World->Prop}{a:Act}{w:World}{c:Code}(I:Nat->Act->World->Prop)(n₀:Nat)(h₀:I n₀ a w)
 (round:∀n a w,I n a w->∀K:Act->World->Prop,(∀a' w' n',n'<n->I n' a' w'->K a' w')->c.wp P (Exit.then K Q) a w):(Code.loop c).wp P Q a w:=
 wp_loop_ghost I n₀ h₀ λn a w h=>round n a w h _ λ_ _ n' hn hi=>⟨n',hn,hi⟩
theorem Marks.kept{B:Nat}{W W':World}{ds:List Deferred}(h:Marks B W ds)(hk:∀k:Nat,∀c,W.heap[k]? =some (.deferred c)->W'.heap[k]? =some (.deferred c)):Marks B W' ds:=by
 obtain⟨Ds,h1,h2,h3⟩:=h
 exact⟨Ds,h1,h2,λD hD=>⟨(h3 D hD).1,hk D _ (h3 D hD).2⟩⟩
theorem Marks.later{B:Nat}{W W':World}{ds:List Deferred}(h:Marks B W ds)(hb:Below W.heap.size W W'):Marks B W' ds:=
 h.kept λk _ hk=>(hb.block k (Array.getElem?_eq_some_iff.1 hk).1).trans hk
theorem Marks.setCell{B:Nat}{W:World}{ds:List Deferred}(h:Marks B W ds)(p:Addr)(u:Value):Marks B (W.setCell p u) ds:=by
 refine h.kept λk c hk=>?_
 by_cases e:k=p.block
 ·subst e
  simp[World.setCell,Array.getElem?_modify,hk]
 ·exact(Below.heap_setCell W p u k e).trans hk
theorem Marks.cons{B:Nat}{W W':World}{ds:List Deferred}{D:Nat}(h:Marks B W ds)(hD:W.heap.size<=D)(hB:B<=W.heap.size)(hW:W'.heap[D]? =some (.deferred (some [])))
 (hk:∀k:Nat,∀c,k<W.heap.size->W.heap[k]? =some (.deferred c)->W'.heap[k]? =some (.deferred c)):Marks B W' (mark D::ds):=by
 obtain⟨Ds,h1,h2,h3⟩:=h
 refine⟨D::Ds,by rw[h1];rfl,List.nodup_cons.2 ⟨λhm=>?_,h2⟩,λE hE=>?_⟩
 ·have:=(Array.getElem?_eq_some_iff.1 (h3 D hm).2).1;omega
 ·rcases List.mem_cons.1 hE with rfl|hE
  ·exact⟨by omega,hW⟩
  ·exact⟨(h3 E hE).1,hk E _ (Array.getElem?_eq_some_iff.1 (h3 E hE).2).1 (h3 E hE).2⟩
theorem KeepsFrom.later{B:Nat}{W W':World}(h:Below W.heap.size W W'):KeepsFrom B W W':=KeepsFrom.of_grownBy (grown_none h) (λj e=>by cases e)
theorem KeepsFrom.set{B:Nat}(W:World)(p:Addr)(u:Value):KeepsFrom B W (W.setCell p u):=(KeepsOthers.setCell W p u).from B
theorem KpT.set{B1 B2 T:Nat}{KA:Option Addr}(W:World){p:Addr}(h1:p.block≠B1)(h2:p.block≠B2)(hT:p.block=T->28<=p.off)(hK:∀o,KA=some ⟨p.block,o,none⟩->p.block=T)(u:Value):KpT B1 B2 T KA W (W.setCell p u):=by
 refine⟨by simp[World.setCell],λb o hb=>World.cell?_setCell_other W p ⟨b,o,none⟩ u (λe=>?_),λo=>World.cell?_setCell_other W p ⟨B1,o,none⟩ u (λe=>h1 (by rw[e])),λo=>World.cell?_setCell_other W p ⟨B2,o,none⟩ u (λe=>h2 (by rw[e]))⟩
 subst e
 rcases hb with⟨hb,ho⟩|⟨hb,o',h'⟩
 ·have:=hT hb;simp at this;omega
 ·exact hb (hK o' h')
theorem kpT_put{B1 B2 T:Nat}{KA:Option Addr}(W:World)(l:Nat)(o o':Obj)(h1:B1<l)(h2:B2<l)(hT:T<l)(hK:∀b o,KA=some ⟨b,o,none⟩->b<l)(_:W.heap[l]? =some o):KpT B1 B2 T KA W (W.putObj l o'):=
 ⟨(grownBy_putObj' W l o').size,λb o hb=>World.cell?_of_block (w:=W) (World.putObj_heap_other (by
    show b≠l
    rcases hb with⟨rfl,_⟩|⟨_,o',h'⟩
    ·omega
    ·have:=hK b o' h';omega)),λo=>World.cell?_of_block (w:=W) (World.putObj_heap_other (by show B1≠l;omega)),λo=>World.cell?_of_block (w:=W) (World.putObj_heap_other (by show B2≠l;omega))⟩
def boxedAct(a:Act)(p d:Tmp)(fr i Bx:Nat):Act:={tmps:=(a.tmps.setIfInBounds p (.agg #[.int .i64 fr,.int .i64 i])).setIfInBounds d (.pointer (some ⟨Bx,0,none⟩)),defers:=[]}
theorem range_sheets{B1 B2 T L:Nat}{FA:Option Addr}{fn fc:Nat}{KA:Option Addr}{kc:Nat}{ks:List Kd}{F:Nat->Int}{fr:Nat}{g:Operand}{p d:Tmp}{assign body:Code}{Q:Exit->Act->World->Prop}{a:Act}{w:World}
 (hg:a.eval g=.func (.func 211) #[] #[.pointer (some ⟨B1,0,none⟩),.pointer (some ⟨B2,0,none⟩)])
 (hk:KOk ks)(hL:L<=24)(hF:∀j,0<=F j/\F j<=24)(hfr:fr<=24)(hne:∀b o,KA=some ⟨b,o,none⟩->b≠T)(hB1:B1<w.heap.size)(hB2:B2<w.heap.size)
 (h1:w.cell? ⟨B1,0,none⟩=some (.pointer (some ⟨T,0,none⟩)))(h2:w.cell? ⟨B2,0,none⟩=some (.int .i64 fr))(hC:TabC w w.heap.size T L FA fn fc KA kc ks F)
 (I:List (Ki L F ks fr)->World->Prop)(Ix:Code->List (Ki L F ks fr)->World->Prop)(hI:∀pre W W',Kept w.heap.size W W'->I pre W->I pre W')(hIx:∀c pre W W',Kept w.heap.size W W'->Ix c pre W->Ix c pre W')(h0:I [] w)
 (hassign:∀(l:Nat)(x:Ki L F ks fr)(W:World)(K:Act->World->Prop),K (boxedAct a p d fr x.1 W.heap.size) (W.alloc (.cells #[.int .i64 fr,.int .i64 (x.1:Nat)] 188))->
   assign.wpIn (Fence.wide.inRound l) 7 Tryz.prog (Exit.then K (λ_ _ _=>False)) {tmps:=a.tmps.setIfInBounds p (.agg #[.int .i64 fr,.int .i64 (x.1:Nat)]),defers:=[]} W)
 (hbody:∀(l:Nat)(pre:List (Ki L F ks fr))(x:Ki L F ks fr)(Bx:Nat)(W:World),w.heap.size<=W.heap.size->w.heap.size<=Bx->Blk W Bx 188 #[.int .i64 fr,.int .i64 (x.1:Nat)]->I pre W->pre.length<ks.length->
   body.wpIn (Fence.wide.inRound l) 7 Tryz.prog (ownPostG w.heap.size (KpT B1 B2 T KA) I Ix (pre++[x]) W) (boxedAct a p d fr x.1 Bx) W)
 (hdone:∀(D:Nat)(W:World),w.heap.size<=D->I (kiTo L F ks fr ks.length) W->W.heap[D]? =some (.deferred (some []))->Q .normal {a with defers:=mark D::a.defers} W)
 (hstop:∀(D:Nat)(c:Code)(pre:List (Ki L F ks fr))(W:World),w.heap.size<=D->(∃k,k<=ks.length/\pre=kiTo L F ks fr k)->Ix c pre W->W.heap[D]? =some (.deferred (some []))->c.wp Tryz.prog Q {a with defers:=mark D::a.defers} W):
 (Code.rangeFunc g #[p] assign body).wp Tryz.prog Q a w:=by
 have hKb:∀b o,KA=some ⟨b,o,none⟩->b<w.heap.size:=λb o h=>by obtain⟨b',o',hA,hB,_⟩:=hC.kds.at_ (by have:=hk.1;omega);rw[h]at hA;cases hA;omega
 refine(wpIn_wide (n:=9)).1 ?_
 refine wpIn_rangeFunc_ownH (F:=Fence.wide) rfl (by omega) hg trivial (enters_of Tryz.func211 (by kernel_rfl) rfl)
  (sheets_stops 8 B1 B2 T w.heap.size L FA fn fc KA kc ks F fr hk hL hF hfr hne hB1 hB2 w (Nat.le_refl _) h1 h2 hC) (λh k=>h.trans k) (λW l o o' hl ho _ _=>kpT_put W l o o' (by omega) (by omega) (by have:=hC.lt;omega) (λb o h=>Nat.lt_of_lt_of_le (hKb b o h) hl) ho) (Below.refl _ _) (λ_=>rfl)
  (λpre W=>w.heap.size<=W.heap.size/\I pre W) Ix
  (λs W W' row hs hg hr=>⟨Nat.le_trans hs.1 hg.size,hI s W W' (Kept.of_grown hg hr) hs.2⟩) (λc s W W' row hs hg hr=>hIx c s W W' (Kept.of_grown hg hr) hs) ⟨Nat.le_refl _,h0⟩
  (λx a' W=>∃Bx,w.heap.size<=Bx/\Blk W Bx 188 #[.int .i64 fr,.int .i64 (x.1:Nat)]/\a'=boxedAct a p d fr x.1 Bx)
  (λx a' s W W' row hs hg hr=>by
    obtain⟨Bx,h1,h2,h3⟩:=hs
    exact⟨Bx,h1,h2.kept (Kept.of_grown hg hr),h3⟩) ?_ ?_ ?_ ?_
 ·intro l pre x W K hi hK
  have:=hassign l x W K (hK _ _ (KeepsFrom.later (balloc (brefl W) _)) (KpT.of_below (balloc (brefl W) _) (by omega) (by omega) (by have:=hC.lt;omega) (λb o h=>Nat.lt_of_lt_of_le (hKb b o h) hi.1)) ⟨Nat.le_trans hi.1 (by simp),hI pre W _ (Kept.of_grown (World.grownBy_alloc W _ none) (λr e=>by cases e)) hi.2⟩
   ⟨W.heap.size,hi.1,Blk.new W _ _,rfl⟩)
  have e2:∀v:Value,Array.foldl (λ(t:Array Value)(x:Tmp×Value)=>match x with|(p,v)=>t.setIfInBounds p v) a.tmps ((#[p]:Array Tmp).zip #[v])=a.tmps.setIfInBounds p v:=λv=>by simp
  rw[e2]
  exact this
 ·intro l pre x a' W _ _ hi hx hlen
  obtain⟨Bx,h1,h2,rfl⟩:=hx
  refine wpIn_mono (hbody l pre x Bx W hi.1 h1 h2 hi.2 hlen) ?_
  intro e b W' hq
  cases e with
  |normal=>exact⟨hq.1,hq.2.1,Nat.le_trans hi.1 hq.1.size,hq.2.2⟩
  |_=>exact hq
 ·intro D xs W hD hS hi hd
  subst hS
  exact hdone D W hD hi.2 hd
 ·intro D c pre W hD hS hi hd
  exact wpIn_wide.2 (hstop D c pre W hD hS hi hd)
def cnt(fs:List Int)(j:Nat):Int:=((List.range j).countP (λi:Nat=>fs.contains (i:Int)):Nat)
def Fst(fs:List Int)(k:Nat):Nat->Int:=λj=>if j<=k then cnt fs j else 0
theorem cnt_zero(fs:List Int):cnt fs 0=0:=rfl
theorem cnt_succ(fs:List Int)(j:Nat):cnt fs (j+1)=cnt fs j+if fs.contains (j:Int)then 1 else 0:=by
 unfold cnt
 rw[List.range_succ,List.countP_append]
 by_cases h:fs.contains (j:Int)=true
 ·simp only[h,List.countP_cons,List.countP_nil,if_true];omega
 ·simp only[h,List.countP_cons,List.countP_nil];simp
theorem cnt_bd(fs:List Int)(j:Nat):0<=cnt fs j/\cnt fs j<=j:=by
 unfold cnt
 have:=List.countP_le_length (p:=λi:Nat=>fs.contains (i:Int)) (l:=List.range j)
 simp only[List.length_range]at this
 omega
theorem Fst_bd(fs:List Int){k:Nat}(hk:k<=24)(j:Nat):0<=Fst fs k j/\Fst fs k j<=24:=by
 unfold Fst
 have:=cnt_bd fs j
 split<;>omega
theorem Fst_zero(fs:List Int):Fst fs 0=λ_=>0:=by
 funext j
 unfold Fst
 by_cases h:j<=0
 ·have:j=0:=by omega
  subst this;simp[cnt_zero]
 ·simp[h]
theorem Fst_self(fs:List Int)(k:Nat):Fst fs k k=cnt fs k:=by simp[Fst]
theorem Fst_no(fs:List Int)(k:Nat)(h:fs.contains (k:Int)=false):upd (Fst fs k) (k+1) (cnt fs k)=Fst fs (k+1):=by
 funext j
 unfold upd Fst
 by_cases e:j=k+1
 ·subst e;rw[if_pos rfl,if_pos (Nat.le_refl _),cnt_succ,h];simp
 ·by_cases e2:j<=k
  ·simp[e,e2,show j<=k+1 from by omega]
  ·simp[e,e2,show¬j<=k+1 from by omega]
theorem Fst_yes(fs:List Int)(k:Nat)(h:fs.contains (k:Int)=true):upd (upd (Fst fs k) (k+1) (cnt fs k)) (k+1) (cnt fs k+1)=Fst fs (k+1):=by
 funext j
 unfold upd Fst
 by_cases e:j=k+1
 ·subst e;rw[if_pos rfl,if_pos (Nat.le_refl _),cnt_succ,h];simp
 ·by_cases e2:j<=k
  ·simp[e,e2,show j<=k+1 from by omega]
  ·simp[e,e2,show¬j<=k+1 from by omega]
def mx(a b:Int):Int:=if a<b then b else a
def relA(A:Nat->Int)(i:Nat)(x:Kd):Nat->Int:=upd A (i+x.w.toNat) (mx (A (i+x.w.toNat)) (A i+x.p))
def aheadIn(ks:List Kd)(i:Nat)(A:Nat->Int):List Nat->Nat->Int
 |[]=>A
 |k::l=>aheadIn ks i (relA A i (ks.getD k ⟨0,0,0⟩)) l
def aheadAt(L:Nat)(F:Nat->Int)(ks:List Kd):Nat->Nat->Int
 |0=>λ_=>0
 |k+1=>aheadIn ks k (upd (aheadAt L F ks k) (k+1) (mx (aheadAt L F ks k (k+1)) (aheadAt L F ks k k))) ((List.range ks.length).filter (canI L F ks k))
theorem aheadIn_snoc(ks:List Kd)(i:Nat)(A:Nat->Int)(l:List Nat)(k:Nat):aheadIn ks i A (l++[k])=relA (aheadIn ks i A l) i (ks.getD k ⟨0,0,0⟩):=by
 induction l generalizing A with
 |nil=>rfl
 |cons a l ih=>exact ih _
def relB(Bh:Nat->Int)(i:Nat)(x:Kd):Nat->Int:=upd Bh i (mx (Bh i) (Bh (i+x.w.toNat)+x.p))
def behindIn(ks:List Kd)(i:Nat)(Bh:Nat->Int):List Nat->Nat->Int
 |[]=>Bh
 |k::l=>behindIn ks i (relB Bh i (ks.getD k ⟨0,0,0⟩)) l
def behindAt(L:Nat)(F:Nat->Int)(ks:List Kd):Nat->Nat->Int
 |0=>λ_=>0
 |k+1=>behindIn ks (L-1-k) (upd (behindAt L F ks k) (L-1-k) (behindAt L F ks k (L-1-k+1))) ((List.range ks.length).filter (canI L F ks (L-1-k)))
theorem behindIn_snoc(ks:List Kd)(i:Nat)(A:Nat->Int)(l:List Nat)(k:Nat):behindIn ks i A (l++[k])=relB (behindIn ks i A l) i (ks.getD k ⟨0,0,0⟩):=by
 induction l generalizing A with
 |nil=>rfl
 |cons a l ih=>exact ih _
def BdA(A:Nat->Int):Prop:=∀j,0<=A j/\A j<=1000*j
theorem BdA.upd{A:Nat->Int}(h:BdA A){i:Nat}{v:Int}(h0:0<=v)(h1:v<=1000*i):BdA (upd A i v):=by
 intro j
 unfold Proofs.YtpbcmkebdcejkaaGreatDoor.C.upd
 split
 ·rename_i e;subst e;exact⟨h0,h1⟩
 ·exact h j
theorem BdA.rel{A:Nat->Int}(h:BdA A)(i:Nat){x:Kd}(hw:1<=x.w)(hp:1<=x.p)(hp2:x.p<=1000):BdA (relA A i x):=by
 unfold relA
 have h1:=h i
 have h2:=h (i+x.w.toNat)
 refine h.upd ?_ ?_<;>(unfold mx;split<;>omega)
theorem BdA.in_{ks:List Kd}(hk:KOk ks){L:Nat}{F:Nat->Int}{i:Nat}:∀(l:List Nat){A:Nat->Int},BdA A->(∀k∈l,canI L F ks i k=true)->BdA (aheadIn ks i A l):=by
 intro l
 induction l with
 |nil=>exactλh _=>h
 |cons k l ih=>
  intro A h hl
  have hc:=hl k (by simp)
  refine ih (h.rel i ?_ ?_ ?_) (λj hj=>hl j (by simp[hj]))<;>
   (unfold canI at hc
    cases hx:ks[k]? with
    |none=>rw[hx]at hc;cases hc
    |some x=>simp only[List.getD,hx,Option.getD_some];have:=hk.bd hx;omega)
theorem aheadAt_bd{L:Nat}{F:Nat->Int}{ks:List Kd}(hk:KOk ks)(k:Nat):BdA (aheadAt L F ks k):=by
 induction k with
 |zero=>intro j;simp[aheadAt];omega
 |succ k ih=>
  unfold aheadAt
  refine BdA.in_ (L:=L) (F:=F) hk _ ?_ (λj hj=>by simpa using(List.mem_filter.1 hj).2)
  have h1:=ih k
  have h2:=ih (k+1)
  refine ih.upd ?_ ?_<;>(unfold mx;split<;>omega)
def BdB(L:Nat)(A:Nat->Int):Prop:=∀j,0<=A j/\A j<=1000*((L-j:Nat):Int)
theorem BdB.upd{L:Nat}{A:Nat->Int}(h:BdB L A){i:Nat}{v:Int}(h0:0<=v)(h1:v<=1000*((L-i:Nat):Int)):BdB L (upd A i v):=by
 intro j
 unfold Proofs.YtpbcmkebdcejkaaGreatDoor.C.upd
 split
 ·rename_i e;subst e;exact⟨h0,h1⟩
 ·exact h j
theorem BdB.rel{L:Nat}{A:Nat->Int}(h:BdB L A)(i:Nat){x:Kd}(hw:1<=x.w)(hp:1<=x.p)(hp2:x.p<=1000)(hl:i+x.w<=L):BdB L (relB A i x):=by
 unfold relB
 have h1:=h i
 have h2:=h (i+x.w.toNat)
 refine h.upd ?_ ?_<;>(unfold mx;split<;>omega)
theorem BdB.in_{ks:List Kd}(hk:KOk ks){L:Nat}{F:Nat->Int}{i:Nat}:∀(l:List Nat){A:Nat->Int},BdB L A->(∀k∈l,canI L F ks i k=true)->BdB L (behindIn ks i A l):=by
 intro l
 induction l with
 |nil=>exactλh _=>h
 |cons k l ih=>
  intro A h hl
  have hc:=hl k (by simp)
  refine ih (h.rel i ?_ ?_ ?_ ?_) (λj hj=>hl j (by simp[hj]))<;>
   (unfold canI at hc
    cases hx:ks[k]? with
    |none=>rw[hx]at hc;cases hc
    |some x=>rw[hx]at hc;simp only[List.getD,hx,Option.getD_some];have:=hk.bd hx;have:=(canB_iff.1 hc).1;omega)
theorem behindAt_bd{L:Nat}{F:Nat->Int}{ks:List Kd}(hk:KOk ks)(k:Nat)(hkL:k<=L):BdB L (behindAt L F ks k):=by
 induction k with
 |zero=>intro j;simp[behindAt];omega
 |succ k ih=>
  have ih:=ih (by omega)
  unfold behindAt
  refine BdB.in_ (L:=L) (F:=F) hk _ ?_ (λj hj=>by simpa using(List.mem_filter.1 hj).2)
  have h1:=ih (L-1-k+1)
  refine ih.upd ?_ ?_<;>omega
end Go.Proofs.YtpbcmkebdcejkaaGreatDoor.C
