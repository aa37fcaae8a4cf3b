/- clip.CheckPrices: the law of leaving a sequence, and the walk. -/
import Derived.Test.YtlclnbhjjdcnkaaGreatDoorZCKept
import Derived.ChangeKeysEq
import Derived.Test.YtlclnbhjjdcnkaaGreatDoorZCCount
import Derived.ArgAppend
namespace Go.Proofs.YtlclnbhjjdcnkaaGreatDoor.C
open Go.RowKit Go.Shelf Go.Maps
attribute [local go_sem] Oper.semAt_some
theorem best_any(T:Nat)(w:World):
 Calls Tryz.prog 29 #[.pointer (some ⟨T,0,none⟩)] w λe w'=>e=.returned (.func (.func 64) #[] #[.pointer (some ⟨w.heap.size,0,none⟩)])/\w.alloc (.cells #[.pointer (some ⟨T,0,none⟩)] 65)=w':=by
 go_enter Tryz.func29,Tryz.ntmps29
 go_wp2
 go_ret
 exact⟨rfl,rfl⟩
def wArr(A:Nat->Int):Array Value:=((List.range 25).map (λj=>Value.int .i64 (A j))).toArray
theorem wArr_get(A:Nat->Int){j:Nat}(h:j<25):(wArr A)[j]? =some (.int .i64 (A j)):=by simp[wArr,h]
theorem eq_items(d:Nat)(A B:Nat->Int)(W:World):∀l:List Nat,(∀j∈l,j<25)->(Op.eqItems (d+1) 2 1 (wArr A) (wArr B) l).run Tryz.prog W=.ok (l.all λj=>A j==B j) W:=by
 intro l
 induction l with
 |nil=>intro _;simp[Op.eqItems]
 |cons j l ih=>
  intro h
  have h1:=wArr_get A (h j (by simp))
  have h2:=wArr_get B (h j (by simp))
  have ih:=ih (λk hk=>h k (by simp[hk]))
  have p1:∀F,(part 2 (wArr F) j).run Tryz.prog W=.ok (.int .i64 (F j)) W:=by
   intro F
   have hpk:Tryz.prog.plainKey 2=true:=by kernel_rfl
   exact run_part_plain W hpk (wArr_get F (h j (by simp)))
  simp only[Op.eqItems,Nat.mul_one,Sem.run_bind,p1,Result.andThen_ok,run_equalIn_int _ _ _ _ _ _ _ und_i64]
  cases hab:(A j==B j)with
  |true=>simp[hab,ih]
  |false=>simp[hab]
theorem worths_eq(A B:Nat->Int)(W:World):(Op.equalIn 10000 74 (.agg (wArr A)) (.agg (wArr B))).run Tryz.prog W=.ok ((List.range 25).all λj=>A j==B j) W:=by
 obtain⟨i0,hi,_,_,_⟩:=info_parts info_long
 rw[run_equalIn_array (P:=Tryz.prog) (w:=W) 9999 (e:=2) (n:=25) (wArr A) (wArr B) (by kernel_rfl) hi,show Tryz.prog.cellsOf 2=1 from by kernel_rfl]
 exact eq_items 9998 A B W _ (λj hj=>List.mem_range.1 hj)
theorem load_worths{W:World}{T:Nat}{A:Nat->Int}(h:∀j,j<25->W.cell? ⟨T,28+j,none⟩=some (.int .i64 (A j))):(loadVar 74 ⟨T,28,none⟩).run Tryz.prog W=.ok (.agg (wArr A)) W:=by
 have hl:(loadCells ⟨T,28,none⟩ (wArr A).toList.length).run Tryz.prog W=.ok (wArr A).toList.toArray W:=
  run_loadCells_list (P:=Tryz.prog) W ⟨T,28,none⟩ (wArr A).toList (λj v hv=>by
   have hj:j<25:=by have:=(List.getElem?_eq_some_iff.1 hv).1;simpa[wArr]using this
   have hadd:(⟨T,28,none⟩:Addr).add j=⟨T,28+j,none⟩:=by unfold Addr.add;split<;>simp_all
   rw[hadd,h j hj]
   have h2:=wArr_get A hj
   simp at hv h2
   rw[h2]at hv
   exact hv)
 have hsz:(wArr A).toList.length=25:=by simp[wArr]
 rw[hsz]at hl
 have hq:(Tryz.prog.info? 74).map (·.size)=some 25:=by kernel_rfl
 cases hi:Tryz.prog.info? 74 with
 |none=>simp[hi]at hq
 |some i=>
  have hs:i.size=25:=by simpa[hi]using hq
  have hagg:(isAgg 74).run Tryz.prog W=.ok true W:=by
   unfold isAgg
   rw[Sem.run_bind,run_underlying Tryz.underlying74 W]
   rfl
  simp only[Array.toArray_toList]at hl
  simp[loadVar,Sem.run_bind,hagg,sizeOf,typeInfo,hi,hs,hl]
theorem wpListIn_load_val{F:Fence}{nF:Nat}{P:Program}{w:World}{ops:Array Oper}{rest:List Oper}{o:Oper}{a:Act}{Q:Exit->Act->World->Prop}(hg:o.guard=none)(ty:TypeId)(x:Operand)(hop:o.op=.load ty x)(p:Addr)(hx:a.eval x=.pointer (some p))(v:Value)
 (hr:(loadVar ty p).run P w=.ok v w)(h:wpListIn F nF P ops Q rest (a.put o.dst v) w):wpListIn F nF P ops Q (o::rest) a w:=by
 refine wpListIn_plain hg λK' hK'=>?_
 unfold Oper.wpIn
 refine⟨by simp[Oper.about,hop],?_⟩
 rw[Oper.semAt_plain F _ _ (by rw[hop];intro c hc';cases hc')]
 simp only[execOp,hop,hx,Instr.loadAt,Instr.sureAddr,Sem.run_bind,Sem.run_pure,Result.andThen_ok,hr]
 exact hK' _ _ h
theorem zero_arr:(#[.int .i64 0,.int .i64 0,.int .i64 0,.int .i64 0,.int .i64 0,.int .i64 0,.int .i64 0,.int .i64 0,.int .i64 0,.int .i64 0,.int .i64 0,.int .i64 0,.int .i64 0,.int .i64 0,.int .i64 0,.int .i64 0,.int .i64 0,.int .i64 0,.int .i64 0,.int .i64 0,.int .i64 0,.int .i64 0,.int .i64 0,.int .i64 0,.int .i64 0]:Array Value)=wArr (λ_=>0):=by rfl
abbrev KeptT(L:Nat)(F:Nat->Int)(ks:List Kd)(A Bh:Nat->Int):={p:Nat×Nat // keptS L F ks A Bh p.1 p.2}
set_option maxRecDepth 100000 in
set_option maxHeartbeats 2000000 in
theorem best1_in(n:Nat)(l B1 T _n₀ L:Nat)(FA:Option Addr)(fn fc:Nat)(KA:Option Addr)(kc:Nat)(fs:List Int)(ks:List Kd)(A Bh:Nat->Int)(hA:aheadAt L (Fst fs L) ks L=A)(hBh:behindAt L (Fst fs L) ks L=Bh)(J Jx:List (KeptT L (Fst fs L) ks A Bh)->World->Prop)(W:World)
 (hT:TabOk W T L FA fn fc KA kc fs ks)(_hB1:B1<W.heap.size)
 (hJ:AbidesFrom W.heap.size J)
 (hY:∀pre x W1,J pre W1->pre.length<1000->YieldAt Fence.wide (n-1) Tryz.prog l #[.agg #[.int .i64 (x.1.1:Nat),.int .i64 (x.1.2:Nat)]] W1 λe W'=>
   (e=.returned (.bool true)/\J (pre++[x]) W'/\KeepsWalks W1 W')\/(e=.returned (.bool false)/\Jx (pre++[x]) W'))
 (h1:W.cell? ⟨B1,0,none⟩=some (.pointer (some ⟨T,0,none⟩)))(h0:J [] W):
 CallsIn Fence.wide n Tryz.prog 64 #[.func (.yield l) #[] #[],.pointer (some ⟨B1,0,none⟩)] W λe W'=>(∃v,e=.returned v)/\
  ((∃ys,(∀f k,keptS L (Fst fs L) ks A Bh f k->∃y∈ys,y.1=(f,k))/\J ys W')\/(∃pre,True/\Jx pre W')):=by
 have hTl:=hT.tab.core.lt
 have hah:∀j,j<25->W.cell? ⟨T,28+j,none⟩=some (.int .i64 (A j)):=λj hj=>by rw[hT.tab.ah j hj,hA]
 have Hw:=Lib.hid (load_worths hah)
 clear hah
 have HT:=Lib.hid hT
 have HA:=Lib.hid hA
 have HB:=Lib.hid hBh
 have HY:=Lib.hid hY
 have HJ:=Lib.hid hJ
 have H0:=Lib.hid h0
 have heq:=worths_eq A (λ_=>0) W
 rw[<-zero_arr]at heq
 obtain⟨zb,hzb⟩:∃zb,((List.range 25).all λj=>A j==0)=zb:=⟨_,rfl⟩
 rw[hzb]at heq
 have Hzb:=Lib.hid hzb
 clear hzb
 clear hT hY hJ h0 hA hBh
 refine callsIn_of_wp Tryz.func64 rfl trivial ?_ rfl
 simp only[Tryz.ntmps64,List.size_toArray,List.length_cons,List.length_nil,Nat.reduceAdd,Nat.reduceSub,Array.replicate_succ,Array.replicate_zero,List.push_toArray,List.append_toArray,List.nil_append,List.cons_append]
 cases zb with
 |true=>
  gi_wp2_with (refine wpListIn_load_val rfl 74 _ rfl _ rfl _ Hw.out ?_)
  refine bodyPost_ret (results_none rfl _ _ _) rfl ⟨⟨_,rfl⟩,.inl ⟨[],λf k hk=>?_,H0.out⟩⟩
  obtain⟨h1,h2,h3⟩:=hk
  obtain⟨x,hx,hc,_⟩:=canI_at h2
  have h4:=(ahead_upto (L:=L) (F:=Fst fs L) HT.out.kok).sheet f k x hx hc
  have h5:=HT.out.kok.bd hx
  have h6:=(canB_iff.1 hc).1
  have h7:=HT.out.l2
  rw[HA.out]at h4
  have hz:∀j,j<25->A j=0:=λj hj=>by simpa using List.all_eq_true.1 Hzb.out j (List.mem_range.2 hj)
  rw[hz f (by omega),hz (f+x.w.toNat) (by omega)]at h4
  omega
 |false=>
  gi_wp2_with (refine wpListIn_load_val rfl 74 _ rfl _ rfl _ Hw.out ?_)
  refine⟨trivial,λh=>(by simp[Fence.wide]at h),?_⟩
  refine(callsIn_wide.2 (kept_any T L FA fn fc KA kc fs ks W HT.out)).mono ?_
  rintro e w1⟨b,m,D,rfl,hb1,hWb,hm,hown,hD⟩
  rw[HA.out,HB.out]at hD
  have hJ1:=HJ.out _ _ _ none H0.out (grown_none hb1) (λr e=>by cases e)
  have hsz:=hown.size_le
  have hW1:=hb1.size
  have hBl:=hown.lt
  have HD:=Lib.hid hD
  have HJ1:=Lib.hid hJ1
  have Hown:=Lib.hid hown
  have Hb1:=Lib.hid hb1
  clear hb1 hD hJ1 hown heq
  gi_wp2_with (gi_at_range;refine wpListIn_range_own _ rfl _ 118 rfl 121 2 keyed_sheet und_msheet _ b m D rfl Hown.out ?_;intro w0 hrg0 hg0 hs0)
  go_frame
  have HJ0:=Lib.hid (HJ.out _ _ _ none HJ1.out hg0 (λr e=>by cases e))
  have Hrg0:=Lib.hid hrg0
  have Hsz:=Lib.hid hsz
  obtain⟨r,hr⟩:∃r,w1.heap.size=r:=⟨_,rfl⟩
  rw[hr]at Hrg0 ⊢
  have hrW:W.heap.size<=r:=by omega
  clear hrg0 hg0 hs0 hW1 hBl hr hsz
  gi_loopw [13] (λu wr=>∃(left:Lit->Bool)(cnt:Nat)(pre:List (KeptT L (Fst fs L) ks A Bh)),RangesM wr b r m D left cnt/\J pre wr/\pre.length+cnt<=1000/\(∀f k,keptS L (Fst fs L) ks A Bh f k->left (keyL f k)=true\/∃y∈pre,y.1=(f,k))/\(∀z,left z=true->Maps.has D z=true))
   (λu wr=>wr.rangeLeft b r)
  case atStart=>exact⟨_,_,[],Hrg0.out,HJ0.out,by have:=Hsz.out;simp;omega,λf k hk=>.inl (HD.out.yes f k hk).1,λz h=>h⟩
  case round=>
   obtain⟨left,cnt,pre,hrg,hJr,hpc,hcov,hhas⟩:=hrel
   have Hrg:=Lib.hid hrg
   have HJr:=Lib.hid hJr
   have Hcov:=Lib.hid hcov
   have Hhas:=Lib.hid hhas
   clear hrg hJr hcov hhas
   rcases Hrg.out.next keyed_sheet 0 with⟨hc0,hl0,hrun⟩|⟨x,c,kl,y,w2,cnt2,hkey,hlk,hv,hat,hrun,hrg2,hlt2,hgr,hsz,hen⟩
   ·have Hl0:=Lib.hid hl0
    clear hc0 hl0
    gi_wp2
    go_end0
    refine⟨⟨_,rfl⟩,.inl ⟨pre,λf k hk=>?_,HJr.out⟩⟩
    rcases Hcov.out f k hk with h|h
    ·rw[Hl0.out]at h;cases h
    ·exact h
   ·obtain⟨f',k',rfl,hS⟩:=HD.out.only kl (Hhas.out kl hlk)
    have hsm:=HD.out.small f' k' hS
    obtain rfl:x=.agg #[.int .i64 f',.int .i64 k']:=keyed_sheet.inj hkey (keyL_of f' k' hsm.1 hsm.2)
    obtain⟨cv,rfl,hy,hwf⟩:=plainElem_int_inv und_i64 hv
    have hJ2:=HJ.out _ _ _ (some r) HJr.out hgr (λr' e=>by cases e;exact⟨hrW,Hrg.out.iter_walk⟩)
    have hG3:=grown_none (balloc (brefl w2) (.cells #[.int .i64 f',.int .i64 k'] 121))
    have hJ3:=HJ.out _ _ _ none hJ2 hG3 (λr e=>by cases e)
    have hrg3:RangesM (w2.alloc (.cells #[.int .i64 f',.int .i64 k'] 121)) b r m D (λz=>left z&&!z.sameKey (keyL f' k')) cnt2:=hrg2.kept hG3 (by simp) (by simp)
    obtain⟨fn',tmps',assign',body',hy',hR⟩:=HY.out pre ⟨(f',k'),hS⟩ _ hJ3 (by omega)
    dsimp only at hy'
    have hcov2:∀f k,keptS L (Fst fs L) ks A Bh f k->(left (keyL f k)&&!(keyL f k).sameKey (keyL f' k'))=true\/∃y∈pre++[(⟨(f',k'),hS⟩:KeptT L (Fst fs L) ks A Bh)],y.1=(f,k):=by
     intro f k hk
     by_cases e:f=f'/\k=k'
     ·obtain⟨rfl,rfl⟩:=e
      exact .inr ⟨⟨(f,k),hS⟩,by simp,rfl⟩
     ·rcases Hcov.out f k hk with h|⟨y,hy,he⟩
      ·have hs2:=HD.out.small f k hk
       have hne:keyL f k≠keyL f' k':=λe'=>e (keyL_inj hs2.1 hs2.2 hsm.1 hsm.2 e')
       exact .inl (by simp[h,sameKey_ne hne])
      ·exact .inr ⟨y,by simp[hy],he⟩
    have Hcov2:=Lib.hid hcov2
    have Hrg3:=Lib.hid hrg3
    have HR:=Lib.hid hR
    have Hhas2:=Lib.hid (show∀z,(left z&&!z.sameKey (keyL f' k'))=true->Maps.has D z=true fromλz hz=>Hhas.out z (by simp at hz;exact hz.1))
    clear hkey hlk hv hat hrg2 hgr hsz hy hwf hJ2 hG3 hJ3 hrg3 hR hcov2 hsm
    gi_wp2_with fail
    refine⟨λh=>(by simp[Fence.wide]at h),?_⟩
    refine HR.out.mono ?_
    rintro e W3(⟨rfl,hJ4,hk4⟩|⟨rfl,hJx4⟩)
    ·have Hrg4:=Lib.hid (Hrg3.out.of_walks hk4)
     have HJ4:=Lib.hid hJ4
     clear hJ4 hk4
     gi_wp2
     go_roundw
     case rel=>exact⟨_,cnt2,_,Hrg4.out,HJ4.out,by simp;omega,Hcov2.out,Hhas2.out⟩
     case measure=>rw[Hrg4.out.left_eq,Hrg.out.left_eq];omega
    ·have HJx4:=Lib.hid hJx4
     clear hJx4
     gi_wp2
     refine bodyPost_ret (results_none rfl _ _ _) rfl ?_
     exact⟨⟨_,rfl⟩,.inr ⟨_,trivial,HJx4.out⟩⟩
theorem best_stops(n:Nat)(B1 T L:Nat)(FA:Option Addr)(fn fc:Nat)(KA:Option Addr)(kc:Nat)(fs:List Int)(ks:List Kd)(A Bh:Nat->Int)(hA:aheadAt L (Fst fs L) ks L=A)(hBh:behindAt L (Fst fs L) ks L=Bh)(w:World)
 (hT:TabOk w T L FA fn fc KA kc fs ks)(hB1:B1<w.heap.size)(h1:w.cell? ⟨B1,0,none⟩=some (.pointer (some ⟨T,0,none⟩))):
 SeqStopsK Fence.wide n Tryz.prog 64 #[.pointer (some ⟨B1,0,none⟩)] (λx:KeptT L (Fst fs L) ks A Bh=>#[.agg #[.int .i64 (x.1.1:Nat),.int .i64 (x.1.2:Nat)]]) KeepsWalks
  (λys=>∀f k,keptS L (Fst fs L) ks A Bh f k->∃y∈ys,y.1=(f,k)) (λ_=>True) 1000 w:=λl J Jx W hW hJ _ hY h0=>
 best1_in n l B1 T 0 L FA fn fc KA kc fs ks A Bh hA hBh J Jx W (hT.later hW) (Nat.lt_of_lt_of_le hB1 hW.size) hJ hY ((hW.cell (p:=⟨B1,0,none⟩) hB1).trans h1) h0
end Go.Proofs.YtlclnbhjjdcnkaaGreatDoor.C
namespace Go.Proofs.YtlclnbhjjdcnkaaGreatDoor.C
open Go.RowKit Go.Shelf
theorem leavesM_cells{P:Program}{F:Fence}{n:Nat}{fn:Func}{tmps:Array Value}{R:Ending->World->Prop}{B:Nat}:∀(ds:List Deferred)(W:World)(v:Value),Marks B W ds->
 (∀W',Kept B W W'->(results fn tmps).run P W'=.ok v W')->(∀W',Kept B W W'->R (.returned v) W')->LeavesInM F n P fn tmps R ds .returning W:=by
 intro ds
 induction ds with
 |nil=>
  intro W v _ hr hR
  exact⟨v,hr W (Kept.refl B W),hR W (Kept.refl B W)⟩
 |cons d ds ih=>
  intro W v hm hr hR
  obtain⟨Ds,hds,hnd,hD⟩:=hm
  cases Ds with
  |nil=>simp at hds
  |cons D Ds=>
   simp only[List.map_cons,List.cons.injEq]at hds
   obtain⟨rfl,rfl⟩:=hds
   obtain⟨hDB,hDh⟩:=hD D (by simp)
   refine⟨by simp,.inl ⟨D,W.putObj D (.deferred none),rfl,run_takeDeferred hDh,?_⟩⟩
   have hk:Kept B W (W.putObj D (.deferred none)):=Kept.of_grown (grownBy_putObj' W D _) (λr e=>by cases e;exact⟨hDB,_,hDh,rfl⟩)
   refine ih _ v ⟨Ds,rfl,(List.nodup_cons.1 hnd).2,λE hE=>⟨(hD E (by simp[hE])).1,?_⟩⟩ (λW' hk'=>hr W' (hk.trans hk')) (λW' hk'=>hR W' (hk.trans hk'))
   have hne:E≠D:=λe=>(List.nodup_cons.1 hnd).1 (e▸hE)
   rw[World.putObj_heap_other hne]
   exact(hD E (by simp[hE])).2
theorem postM_cells{P:Program}{fn:Func}{R:Ending->World->Prop}{a:Act}{B:Nat}{W:World}{v:Value}(hm:Marks B W a.defers)(hr:∀W',Kept B W W'->(results fn a.tmps).run P W'=.ok v W')(hR:∀W',Kept B W W'->R (.returned v) W'):bodyPostM Fence.wide 9 P fn R .ret a W:=
 leavesM_cells _ _ _ hm hr hR
theorem results_cells2{P:Program}{fn:Func}{p q:Tmp}{tp tq:TypeId}(h:fn.results=#[.cell p tp,.cell q tq])(tmps:Array Value)(w:World)(a b:Nat)(x y:Int)(kx ky:IntKind)(hp:tmps.getD p undef=.pointer (some ⟨a,0,none⟩))(hq:tmps.getD q undef=.pointer (some ⟨b,0,none⟩))
 (l1:(loadVar tp ⟨a,0,none⟩).run P w=.ok (.int kx x) w)(l2:(loadVar tq ⟨b,0,none⟩).run P w=.ok (.int ky y) w):
 (results fn tmps).run P w=.ok (.tuple #[.int kx x,.int ky y]) w:=by
 rw[Array.getD_eq_getD_getElem?]at hp hq
 simp[results,h,hp,hq,l1,l2,asAddr]
attribute [local go_sem] Oper.semAt_some
theorem load_err(a:Addr)(W:World)(x:Int)(h:W.cell? a=some (.int .i64 x)):(loadVar 26 a).run Tryz.prog W=.ok (.int .i64 x) W:=by
 go_simp
structure RC(tp tq:TypeId)(w W:World)(x e:Int):Prop where
 bel:Below w.heap.size w W
 b2:Blk W (w.heap.size+1+1) tp #[.int .i64 x]
 b3:Blk W (w.heap.size+1+1+1) tq #[.int .i64 e]
section
variable{tp tq:TypeId}{w W W':World}{x e:Int}
theorem RC.later(h:RC tp tq w W x e)(hb:Below W.heap.size W W'):RC tp tq w W' x e:=⟨Below.later h.bel hb,h.b2.later hb,h.b3.later hb⟩
theorem RC.kept{B:Nat}(h:RC tp tq w W x e)(hk:Kept B W W')(hB:w.heap.size<=B):RC tp tq w W' x e:=
 ⟨h.bel.trans ⟨hk.os,hk.tape,hk.output,hk.size,λi hi=>hk.low i (by omega) (by have:=h.bel.size;omega)⟩,h.b2.kept hk,h.b3.kept hk⟩
theorem RC.setX(h:RC tp tq w W x e)(y:Int):RC tp tq w (W.setCell ⟨w.heap.size+1+1,0,none⟩ (.int .i64 y)) y e:=
 ⟨h.bel.setCell (by show w.heap.size<=w.heap.size+1+1;omega) _,h.b2.set 0 _,h.b3.other (by show w.heap.size+1+1≠_;omega) _⟩
theorem RC.setE(h:RC tp tq w W x e)(y:Int):RC tp tq w (W.setCell ⟨w.heap.size+1+1+1,0,none⟩ (.int .i64 y)) x y:=
 ⟨h.bel.setCell (by show w.heap.size<=w.heap.size+1+1+1;omega) _,h.b2.other (by show w.heap.size+1+1+1≠_;omega) _,h.b3.set 0 _⟩
theorem RC.cells(h:RC tp tq w W x e):W.cell? ⟨w.heap.size+1+1,0,none⟩=some (.int .i64 x)/\W.cell? ⟨w.heap.size+1+1+1,0,none⟩=some (.int .i64 e)/\W.frozen? ⟨w.heap.size+1+1,0,none⟩=false/\W.frozen? ⟨w.heap.size+1+1+1,0,none⟩=false/\w.heap.size+1+1+1<W.heap.size:=
 ⟨h.b2.cell 0,h.b3.cell 0,h.b2.frozen 0,h.b3.frozen 0,h.b3.lt⟩
end
theorem RC.new(tp tq t0 t1:TypeId)(w:World)(c0 c1:Array Value):RC tp tq w ((((w.alloc (.cells c0 t0)).alloc (.cells c1 t1)).alloc (.cells #[.int .i64 0] tp)).alloc (.cells #[.int .i64 0] tq)) 0 0:=by
 refine⟨balloc (balloc (balloc (balloc (brefl w) _) _) _) _,?_,?_⟩
 ·have h5:=(Blk.new ((w.alloc (.cells c0 t0)).alloc (.cells c1 t1)) tp #[.int .i64 0]).alloc (.cells #[.int .i64 0] tq)
  rw[World.size_alloc,World.size_alloc]at h5
  exact h5
 ·have h5:=Blk.new (((w.alloc (.cells c0 t0)).alloc (.cells c1 t1)).alloc (.cells #[.int .i64 0] tp)) tq #[.int .i64 0]
  rw[World.size_alloc,World.size_alloc,World.size_alloc]at h5
  exact h5
end Go.Proofs.YtlclnbhjjdcnkaaGreatDoor.C
