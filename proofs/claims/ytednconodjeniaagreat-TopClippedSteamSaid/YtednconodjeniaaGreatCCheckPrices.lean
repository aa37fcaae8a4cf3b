/- clip.CheckPrices: the law of leaving a sequence, and the walk. -/
import Derived.Test.YtednconodjeniaaGreatCCheckCuts
import Derived.Laws.CopyOwn
import Derived.Deep.RegionHeld3
import Derived.Deep.AppendLies
import Derived.Lib.AppendZeros
import Derived.Test.YtednconodjeniaaGreatCPath
import Derived.ArgAppend
namespace Go.Proofs.YtednconodjeniaaGreat.C
open Go.RowKit Go.Shelf
set_option maxHeartbeats 1000000 in
theorem Worth_ok(L:Nat)(FA:Option Addr)(fn fc:Nat)(fs:List Int)(KA:Option Addr)(kc:Nat)(ks:List Kd)(w:World)(hfs:Sl 1 encI w w.heap.size FA fn fc fs)(hks:Sl 3 encK w w.heap.size KA ks.length kc ks)(he:rkE L fs ks=0):
 Calls Tryz.prog 8 #[.agg #[.int .i64 L,.slice FA fn fc],.slice KA ks.length kc] w λe w'=>e=.returned (.tuple #[.int .i64 (aheadAt L (Fst fs L) ks L L),.int .i64 0])/\Below w.heap.size w w':=by
 have ho:=Lib.hid (λW hb=>open_ok L FA fn fc fs KA kc ks W (hfs.later (w':=W) hb) (hks.later hb) he)
 clear hfs hks he
 obtain⟨AL,hAL⟩:∃AL,aheadAt L (Fst fs L) ks L L=AL:=⟨_,rfl⟩
 rw[hAL]
 have HAL:=Lib.hid hAL
 clear hAL
 go_enter Tryz.func8,Tryz.ntmps8
 go_wp2_with fail
 refine(ho.out _ (balloc (brefl w) _)).mono ?_
 rintro e w1⟨T,rfl,hb1,hT⟩
 have k0:w1.cell? ⟨w.heap.size,0,none⟩=some (.int .i64 L):=(hb1.cell (p:=⟨w.heap.size,0,none⟩) (by simp)).trans (by go_simp)
 have zs:=hb1.size
 simp at zs
 have hz:w.heap.size<w1.heap.size:=by omega
 have hzT:=hT.tab.core.lt
 have ha:=hT.tab.ah L (by have:=hT.l2;omega)
 have hl2:=hT.l2
 have j0:(L:Int)<25:=by omega
 have HB:=Lib.hid (Below.later (balloc (brefl w) _) hb1)
 clear hb1 hT
 rw[HAL.out]at ha
 go_wp2_with fail
 refine dag 9 (by kernel_rfl) (by kernel_rfl) (.is ?_::.is ?_::.is ?_::.is ?_::.is ?_::.is ?_::.is ?_::.is ?_::.is ?_::[]) rfl ?st ?ob
 case st=>simp[Spec.ok]
 case ob=>
  intro env W' hG
  obtain⟨hc,hf⟩:=bcell hG
  repeat (refine obls_is ?_ ?_;unfold doesAt;go_simp;(try go_bits);refine⟨brefl _,?_⟩;rfl;intro K hK;go_simp;refine hK _ ?_;clear hK K)
  refine obls_nil (λ_=>?_)
  go_wp2
  go_ret2
  exact⟨rfl,Below.later HB.out hG⟩
set_option maxHeartbeats 1000000 in
theorem Count_ok(L:Nat)(FA:Option Addr)(fn fc:Nat)(fs:List Int)(KA:Option Addr)(kc:Nat)(ks:List Kd)(w:World)(hfs:Sl 1 encI w w.heap.size FA fn fc fs)(hks:Sl 3 encK w w.heap.size KA ks.length kc ks)(he:rkE L fs ks=0):
 Calls Tryz.prog 70 #[.agg #[.int .i64 L,.slice FA fn fc],.slice KA ks.length kc] w λe w'=>e=.returned (.tuple #[.int .i64 (manyAt L (Fst fs L) ks (behindAt L (Fst fs L) ks L) L 0),.int .i64 0])/\Below w.heap.size w w':=by
 have ho:=Lib.hid (λW hb=>open_ok L FA fn fc fs KA kc ks W (hfs.later (w':=W) hb) (hks.later hb) he)
 clear hfs hks he
 go_enter Tryz.func70,Tryz.ntmps70
 go_wp2_with fail
 refine(ho.out _ (balloc (brefl w) _)).mono ?_
 rintro e w1⟨T,rfl,hb1,hT⟩
 have HB:=Lib.hid (Below.later (balloc (brefl w) _) hb1)
 have HT:=Lib.hid hT
 clear hb1 hT
 go_wp2_with fail
 refine(count_any T L FA fn fc KA kc fs ks w1 HT.out).mono ?_
 rintro e w2⟨rfl,hb2⟩
 have HB2:=Lib.hid (Below.later HB.out hb2)
 clear hb2
 go_wp2
 go_ret2
 exact⟨rfl,HB2.out⟩
theorem run_copy_any{P:Program}(w:World)(dT sT ty elem:TypeId)(g dLen dCap:Nat)(a:Addr)(sLen sCap:Nat)(cur:Array Value)(t:TypeId)(cs:List Value)(i:TypeInfo)
 (hu:P.underlying dT=some (.slice elem))(hi:P.info? elem=some i)
 (hg:w.heap[g]? =some (.cells cur t (0,0))) (hn:cs.length=Nat.min sLen dLen*i.size)
 (hsrc:∀j v,cs[j]? =some v->w.cell? (a.add j)=some v) (hfit:cs.length<=cur.size) (h1:∀v∈cs,v.oneCell'=true):
 (Builtin.copy_ #[dT,sT] ty #[.slice (some ⟨g,0,none⟩) dLen dCap,.slice (some a) sLen sCap]).run P w=
   .ok (goInt (Nat.min sLen dLen:Nat)) (w.setRow g (cs++cur.toList.drop cs.length).toArray):=by
 have hl:=run_loadCells_list (P:=P) w a cs hsrc
 have hst:=run_storeCells_at P g 0 t cs 0 cur w hg (by simpa using hfit) h1
 simp only[Nat.add_zero,Nat.zero_add,List.take_zero,List.nil_append]at hst
 simp[Builtin.copy_,run_underlying hu,Builtin.lenOf,Builtin.firstCells,sizeOf,typeInfo,hi,<-hn,hl,hst]
theorem make_sheets(n:Nat)(hn:n<=1000)(W:World):
 (Instr.makeSlice 39 (.int .i64 n) (.int .i64 n)).run Tryz.prog W=.ok (.slice (some ⟨W.heap.size,0,none⟩) n n) (W.alloc (.cells (madeCells #[.int .i64 0,.int .i64 0] (n*2)) 49)):=by
 obtain⟨i0,hi,hz0,hz1,hz2⟩:=info_parts info_sheet
 have h:=run_make (P:=Tryz.prog) W 39 49 i0 (.agg #[.int .i64 0,.int .i64 0]) und_sheets hi hz0 .i64 .i64 n n (by omega) (Int.le_refl _) (by rw[hz2];omega) (by omega)
 rw[hz1]at h
 simpa[Value.cells]using h
theorem encS_get{xs:List Sh}{i:Nat}{x:Sh}(hx:xs[i]? =some x) {j:Nat} {u:Value} (hu:(encS x)[j]? =some u):(xs.flatMap encS)[i*2+j]? =some u:=by
 induction xs generalizing i with
 |nil=>cases hx
 |cons y xs ih=>
  have hj:j<2:=(List.getElem?_eq_some_iff.1 hu).1
  cases i with
  |zero=>
   simp only[List.getElem?_cons_zero,Option.some.injEq]at hx
   subst hx
   simp only[List.flatMap_cons,Nat.zero_mul,Nat.zero_add]
   rw[List.getElem?_append_left hj]
   exact hu
  |succ i=>
   simp only[List.flatMap_cons]
   rw[List.getElem?_append_right (by simp[encS];omega)]
   rw[show(i+1)*2+j-(encS y).length=i*2+j from by simp[encS];omega]
   exact ih (by simpa using hx)
theorem encS_len(xs:List Sh):(xs.flatMap encS).length=xs.length*2:=by
 induction xs with
 |nil=>rfl
 |cons x xs ih=>simp only[List.flatMap_cons,List.length_append,ih,List.length_cons];simp[encS];omega
set_option maxHeartbeats 1000000 in
theorem Cuts_ok(L:Nat)(FA:Option Addr)(fn fc:Nat)(fs:List Int)(KA:Option Addr)(kc:Nat)(ks:List Kd)(w:World)(hfs:Sl 1 encI w w.heap.size FA fn fc fs)(hks:Sl 3 encK w w.heap.size KA ks.length kc ks)(he:rkE L fs ks=0):
 Calls Tryz.prog 9 #[.agg #[.int .i64 L,.slice FA fn fc],.slice KA ks.length kc] w λe w'=>∃G,e=.returned (.tuple #[.slice (some ⟨G,0,none⟩) (firstAt L (Fst fs L) ks (behindAt L (Fst fs L) ks L) L 0).length (firstAt L (Fst fs L) ks (behindAt L (Fst fs L) ks L) L 0).length,.int .i64 0])/\Below w.heap.size w w'/\
  Sl 2 encS w' w'.heap.size (some ⟨G,0,none⟩) (firstAt L (Fst fs L) ks (behindAt L (Fst fs L) ks L) L 0).length (firstAt L (Fst fs L) ks (behindAt L (Fst fs L) ks L) L 0).length (firstAt L (Fst fs L) ks (behindAt L (Fst fs L) ks L) L 0):=by
 have ho:=Lib.hid (λW hb=>open_ok L FA fn fc fs KA kc ks W (hfs.later (w':=W) hb) (hks.later hb) he)
 clear hfs hks he
 have hfl:=λT W hT=>first_any T L FA fn fc KA kc fs ks W hT
 have hlen:=firstAt_len (L:=L) (F:=Fst fs L) (ks:=ks) (Bh:=behindAt L (Fst fs L) ks L) L 0
 generalize firstAt L (Fst fs L) ks (behindAt L (Fst fs L) ks L) L 0=xs at*
 have Hfl:=Lib.hid hfl
 clear hfl
 obtain⟨n,hn⟩:∃n,n=xs.length:=⟨_,rfl⟩
 rw[<-hn]at hlen ⊢
 have Hn:=Lib.hid hn
 clear hn
 go_enter Tryz.func9,Tryz.ntmps9
 go_wp2_with fail
 refine(ho.out _ (balloc (brefl w) _)).mono ?_
 rintro e w1⟨T,rfl,hb1,hT⟩
 have HB:=Lib.hid (Below.later (balloc (brefl w) _) hb1)
 have hl2:=hT.l2
 have HT:=Lib.hid hT
 clear hb1 hT
 go_wp2_with fail
 refine(Hfl.out T w1 HT.out).mono ?_
 rintro e w2⟨v,rfl,hb2,hown⟩
 have HB2:=Lib.hid (Below.later HB.out hb2)
 clear hb2
 rw[<-Hn.out]at hown
 have hmk:=make_sheets n (by omega)
 obtain⟨i0,hi,hz0,hz1,hz2⟩:=info_parts info_sheet
 have hblk:(w2.alloc (.cells (madeCells #[.int .i64 0,.int .i64 0] (n*2)) 49)).heap[w2.heap.size]? =some (.cells (madeCells #[.int .i64 0,.int .i64 0] (n*2)) 49 (0,0)):=World.alloc_heap_new w2 _
 have hxl:=encS_len xs
 rw[<-Hn.out]at hxl
 have hfin:∀W':World,W'.heap[w2.heap.size]? =some (.cells ((xs.flatMap encS)++(madeCells #[Value.int .i64 0,.int .i64 0] (n*2)).toList.drop (xs.flatMap encS).length).toArray 49 (0,0))->
  Sl 2 encS W' W'.heap.size (some ⟨w2.heap.size,0,none⟩) n n xs:=by
  intro W' hW
  refine⟨Hn.out.symm,Nat.le_refl _,by omega,λ_=>⟨w2.heap.size,0,rfl,(Array.getElem?_eq_some_iff.1 hW).1,λi x hx j u hu=>?_⟩⟩
  have h1:=encS_get hx hu
  have hlt:i*2+j<(xs.flatMap encS).length:=(List.getElem?_eq_some_iff.1 h1).1
  have h2:W'.cell? ⟨w2.heap.size,0+i*2+j,none⟩=((xs.flatMap encS)++(madeCells #[Value.int .i64 0,.int .i64 0] (n*2)).toList.drop (xs.flatMap encS).length).toArray[0+i*2+j]? :=by simp[World.cell?,hW]
  rw[h2,Nat.zero_add,List.getElem?_toArray,List.getElem?_append_left hlt]
  exact h1
 have hmin:Nat.min n n=n:=Nat.min_self n
 rcases hown.2 with⟨rfl,h0⟩|⟨g,cap,cur,rfl,hg0,hg,hcap,hmax,hsz,htake⟩
 ·subst h0
  have hmk0:∀W:World,(Instr.makeSlice 39 (.int .i64 0) (.int .i64 0)).run Tryz.prog W=.ok (.slice (some ⟨W.heap.size,0,none⟩) 0 0) (W.alloc (.cells #[] 49)):=λW=>by
   have h:=make_sheets 0 (by omega) W
   have h2:madeCells #[Value.int .i64 0,.int .i64 0] (0*2)=#[]:=by apply Array.eq_empty_of_size_eq_zero;simp[madeCells]
   rw[h2]at h
   exact h
  have hcp:=λty=>run_copy_nil (P:=Tryz.prog) (w2.alloc (.cells #[] 49)) 39 39 ty 49 ⟨w2.heap.size,0,none⟩ 0 0 und_sheets (by rw[hi];rfl)
  have hblk0:(w2.alloc (.cells #[] 49)).heap[w2.heap.size]? =some (.cells #[] 49 (0,0)):=World.alloc_heap_new w2 _
  have hx0:xs=[]:=List.length_eq_zero_iff.1 Hn.out.symm
  have HF:=Lib.hid (hfin _ (by rw[hblk0,hx0];simp[madeCells]))
  have HG:=Lib.hid (balloc HB2.out (.cells #[] 49))
  clear hfin hown hblk hxl hx0 hblk0 hmk
  go_wp2
  go_ret2
  exact⟨w2.heap.size,rfl,HG.out,HF.out⟩
 ·have hcp:=λty=>run_copy_any (P:=Tryz.prog) (w2.alloc (.cells (madeCells #[.int .i64 0,.int .i64 0] (n*2)) 49)) 39 39 ty 49 w2.heap.size n n ⟨g,0,none⟩ n cap _ _ (xs.flatMap encS) i0 und_sheets hi hblk (by rw[hz1,hmin];exact hxl)
   (λj u hu=>(hown.alloc _).cells rfl j u hu) (by rw[hxl];simp[madeCells]) (by
     intro u hu
     obtain⟨x,_,hx⟩:=List.mem_flatMap.1 hu
     simp[encS]at hx
     rcases hx with rfl|rfl<;>rfl)
  simp only[hmin]at hcp
  obtain⟨W3,hW3⟩:∃W3,(w2.alloc (.cells (madeCells #[.int .i64 0,.int .i64 0] (n*2)) 49)).setRow w2.heap.size ((xs.flatMap encS)++(madeCells #[Value.int .i64 0,.int .i64 0] (n*2)).toList.drop (xs.flatMap encS).length).toArray=W3:=⟨_,rfl⟩
  have hr3:W3.heap[w2.heap.size]? =some (.cells ((xs.flatMap encS)++(madeCells #[Value.int .i64 0,.int .i64 0] (n*2)).toList.drop (xs.flatMap encS).length).toArray 49 (0,0)):=by
   rw[<-hW3];rw[setRow_heap _ _ _ _ _ _ hblk]
  have hg3:Below w.heap.size w W3:=by
   rw[<-hW3];exact below_setRow (balloc HB2.out _) HB2.out.size _
  rw[hW3]at hcp
  have HF:=Lib.hid (hfin _ hr3)
  have HG:=Lib.hid hg3
  clear hfin hown hblk hxl hr3 hg3 hW3 htake hg
  go_wp2
  go_ret2
  exact⟨w2.heap.size,rfl,HG.out,HF.out⟩
def pricesAt(A:Nat->Int)(n:Nat):List Int:=(List.range n).map (λj=>A (j+1)-A j)
theorem pricesAt_succ(A:Nat->Int)(n:Nat):pricesAt A (n+1)=pricesAt A n++[A (n+1)-A n]:=by simp[pricesAt,List.range_succ]
theorem pricesAt_len(A:Nat->Int)(n:Nat):(pricesAt A n).length=n:=by simp[pricesAt]
theorem und_longs:Tryz.prog.underlying 43=some (.slice 2):=by kernel_rfl
def encL(x:Int):List Value:=[.int .i64 x]
theorem own_sl{W:World}{e:TypeId}{base n:Nat}{v:Value}{xs:List Int}(h:W.ownsRow base e 1 v n (xs.map (.int .i64))):∃G c,v=.slice G n c/\Sl 1 encI W W.heap.size G n c xs:=by
 have hl:=h.1
 simp at hl
 rcases h.2 with⟨rfl,rfl⟩|⟨g,cap,cur,rfl,_,hg,hc,hm,_,_⟩
 ·exact⟨none,0,rfl,hl,Nat.le_refl _,by omega,λh=>absurd h (by omega)⟩
 ·refine⟨some ⟨g,0,none⟩,cap,rfl,hl,hc,by simp only[maxLen]at hm;omega,λ_=>⟨g,0,rfl,(Array.getElem?_eq_some_iff.1 hg).1,λi x hx j u hu=>?_⟩⟩
  have hj:j<1:=(List.getElem?_eq_some_iff.1 hu).1
  obtain rfl:j=0:=by omega
  simp only[encI,List.getElem?_cons_zero,Option.some.injEq]at hu
  subst hu
  have:=h.cells rfl i (.int .i64 x) (by simp[hx])
  have hadd:(⟨g,0,none⟩:Addr).add i=⟨g,i,none⟩:=by unfold Addr.add;split<;>simp_all
  rw[hadd]at this
  simpa using this
def LoopP(w:World)(T L:Nat)(A:Nat->Int)(n:Nat)(a:Act)(W:World):Prop:=
 ∃i v,i+n=L/\Fits (none::none::some (.pointer (some ⟨w.heap.size,0,none⟩))::none::none::none::some (.pointer (some ⟨T,0,none⟩))::none::some (v)::none::none::none::none::none::none::none::none::none::none::none::some (.int .i64 (L:Nat))::some (.int .i64 (i:Nat))::none::none::none::none::none::none::none::none::none::none::none::none::none::none::none::none::none::none::none::none::none::[]) a.tmps.toList/\a.defers=[]/\Below w.heap.size w W/\W.ownsRow (w.heap.size+1) 2 1 v i ((pricesAt A i).map (.int .i64))/\(∀j,j<25->W.cell? ⟨T,28+j,none⟩=some (.int .i64 (A j)))/\v.ownBlock≠some T/\T<W.heap.size/\w.heap.size+1<=W.heap.size
set_option maxRecDepth 100000 in
set_option maxHeartbeats 2000000 in
theorem Prices_ok(L:Nat)(FA:Option Addr)(fn fc:Nat)(fs:List Int)(KA:Option Addr)(kc:Nat)(ks:List Kd)(w:World)(hfs:Sl 1 encI w w.heap.size FA fn fc fs)(hks:Sl 3 encK w w.heap.size KA ks.length kc ks)(he:rkE L fs ks=0):
 Calls Tryz.prog 73 #[.agg #[.int .i64 L,.slice FA fn fc],.slice KA ks.length kc] w λe w'=>∃G c,e=.returned (.tuple #[.slice G L c,.int .i64 0])/\Below w.heap.size w w'/\Sl 1 encI w' w'.heap.size G L c (pricesAt (aheadAt L (Fst fs L) ks L) L):=by
 have ho:=Lib.hid (λW hb=>open_ok L FA fn fc fs KA kc ks W (hfs.later (w':=W) hb) (hks.later hb) he)
 have hA:=aheadAt_bd (L:=L) (F:=Fst fs L) (ks:=ks)
 clear hfs hks he
 obtain⟨A,hAe⟩:∃A,aheadAt L (Fst fs L) ks L=A:=⟨_,rfl⟩
 rw[hAe]
 have HAe:=Lib.hid hAe
 have HA:=Lib.hid hA
 clear hAe hA
 go_enter Tryz.func73,Tryz.ntmps73
 go_wp2_with fail
 refine(ho.out _ (balloc (brefl w) _)).mono ?_
 rintro e w1⟨T,rfl,hb1,hT⟩
 have k0:w1.cell? ⟨w.heap.size,0,none⟩=some (.int .i64 L):=(hb1.cell (p:=⟨w.heap.size,0,none⟩) (by simp)).trans (by go_simp)
 have zs:=hb1.size
 simp at zs
 have hbd:=HA.out hT.kok L
 rw[HAe.out]at hbd
 have hcA:∀j,j<25->w1.cell? ⟨T,28+j,none⟩=some (.int .i64 (A j)):=λj hj=>by rw[hT.tab.ah j hj,HAe.out]
 have hzT:=hT.tab.core.lt
 have hl2:=hT.l2
 have Hbd:=Lib.hid hbd
 have HB:=Lib.hid (Below.later (balloc (brefl w) _) hb1)
 have HcA:=Lib.hid hcA
 clear hb1 hT hcA hbd
 go_wp2_with fail
 refine loop_n (LoopP w T L A) L ?_ ?_
 ·refine⟨0,_,by omega,?_,rfl,HB.out,World.ownsRow_nil _ _ _ _,HcA.out,by simp[Value.ownBlock],hzT,by omega⟩
  repeat (first|exact fits_nil|refine fits_none ?_|refine fits_some ?_)
 clear HcA HB hzT zs k0
 clear w1
 intro n a W hI K hK
 obtain⟨i,v,hin,hfit,hds,hbel,hown,hcA,hvT,hzT,hzs⟩:=hI
 obtain⟨f,hf⟩:=fits_act hfit
 rw[hds]at hf
 subst hf
 clear hfit hds
 simp only[fillP,Nat.reduceAdd]
 by_cases hlt:i<L
 ·have hc1:=hcA i (by omega)
  have hc2:=hcA (i+1) (by omega)
  have j0:(0:Int)<=(i:Int)+1:=by omega
  have j1:(i:Int)+1<25:=by omega
  have j2:((i:Int)+1).toNat=i+1:=by omega
  have j3:(i:Int)<25:=by omega
  have j4:(0:Int)<=(i:Int):=by omega
  obtain⟨b1,b1'⟩:=Hbd.out i
  obtain⟨b2,b2'⟩:=Hbd.out (i+1)
  have hw1:IntKind.i64.wrap ((i:Int)+1)=(i:Int)+1:=by rw[IntKind.wrap_i64];omega
  have hw2:IntKind.i64.wrap (A (i+1)-A i)=A (i+1)-A i:=by rw[IntKind.wrap_i64];omega
  have HcA:=Lib.hid hcA
  have Hbel:=Lib.hid hbel
  have Hown:=Lib.hid hown
  clear hcA hbel hown
  obtain⟨i0,hi0,hz0,hz1,hz2⟩:=info_parts info_long
  go_wp2_with fail
  go_region_held3 (λw'=>w'.cell? ⟨T,28+i,none⟩=some (.int .i64 (A i))/\w'.cell? ⟨T,28+(i+1),none⟩=some (.int .i64 (A (i+1))))
   (first
     |go_keep
     |(go_split_ands
       refine⟨?_,?_⟩
       ·(rw[hgrow.cell_far _ (by simp;omega) (Ne.symm hvT)];assumption)
       ·(rw[hgrow.cell_far _ (by simp;omega) (Ne.symm hvT)];assumption)))
   ((refine step_append_lies _ (by rfl) _ _ _ (by rfl) (w.heap.size+1) 2 i0 _ 1 8 und_longs hi0 hz0 hz1 hz2 rfl (by omega) v i _ (by rfl) ((Hown.out.alloc _).drew)
      ⟨W.heap.size,0,none⟩ 1 1 [.int .i64 (A (i+1)-A i)] (by rfl) (by rfl) (World.news_of_block (cs:=#[.int .i64 (A (i+1)-A i)]) (t:=2) (fr:=(0,0)) (heap_alloc_new W _)) (by simp[Value.oneCell'])
      (by omega) (by simp only[maxLen];omega) (by omega) (by simp;omega) (W.heap.size+1) (by simp) ?_;intro gg cap w3 hown1 hgrow hat hlt'))
  have hs3:=hgrow.size
  simp at hs3
  have hrow:∀k,v.ownBlock=some k->w.heap.size+1<=k:=λk hk=>(Hown.out.lt k hk).1
  have hWd:Below W.heap.size W (W.alloc (Obj.cells #[Value.int .i64 (A (i+1)-A i)] 2)).drew:=bdrew (balloc (brefl W) _) 1
  have hbel3:Below w.heap.size w w3:=(Hbel.out.trans (hWd.mono Hbel.out.size)).trans ⟨hgrow.os,hgrow.tape,hgrow.output,hgrow.size,λk hk=>hgrow.block k (by simp;omega) (λe=>by have:=hrow k e.symm;omega)⟩
  have hcA3:∀j,j<25->w3.cell? ⟨T,28+j,none⟩=some (.int .i64 (A j)):=λj hj=>by
   rw[hgrow.cell_far ⟨T,28+j,none⟩ (by simp;omega) (Ne.symm hvT)]
   exact(hWd.cell (p:=⟨T,28+j,none⟩) hzT).trans (HcA.out j hj)
  have hvT3:(Value.slice (some ⟨gg,0,none⟩) (i+1) cap).ownBlock≠some T:=by
   simp only[Value.ownBlock,ne_eq,Option.some.injEq]
   rintro rfl
   rcases hat with h|h
   ·exact hvT h
   ·omega
  have hown3:w3.ownsRow (w.heap.size+1) 2 1 (.slice (some ⟨gg,0,none⟩) (i+1) cap) (i+1) ((pricesAt A (i+1)).map (.int .i64)):=by
   rw[pricesAt_succ,List.map_append]
   exact hown1
  have HcA3:=Lib.hid hcA3
  have Hbel3:=Lib.hid hbel3
  have Hown3:=Lib.hid hown3
  clear hown1 hgrow hat hbel3 hcA3 hown3 hWd
  go_wp2
  refine hK _ _ (n-1) (by omega) ⟨i+1,_,by omega,?_,rfl,Hbel3.out,Hown3.out,HcA3.out,hvT3,by omega,by omega⟩
  repeat (first|exact fits_nil|refine fits_none ?_|refine fits_some ?_)
 ·obtain rfl:L=i:=by omega
  obtain⟨G,c,rfl,hsl⟩:=own_sl hown
  have Hsl:=Lib.hid hsl
  have Hbel:=Lib.hid hbel
  clear hsl hbel hown hcA hK hin hvT
  go_wp2
  go_ret2
  exact⟨G,c,rfl,Hbel.out,Hsl.out⟩
end Go.Proofs.YtednconodjeniaaGreat.C
namespace Go.Proofs.YtednconodjeniaaGreat.C
open Go.RowKit Go.Shelf
theorem info_int:(Tryz.prog.info? 3).map (λi=>(i.zero,i.size,i.bytes))=some (some (.int .i64 0),1,8):=by kernel_rfl
theorem und_ints:Tryz.prog.underlying 22=some (.slice 3):=by kernel_rfl
theorem und_int:Tryz.prog.underlying 3=some (.int .i64):=by kernel_rfl
set_option maxHeartbeats 1000000 in
theorem grow_nil(n:Nat)(hn:n<=1000)(w:World):
 Calls Tryz.prog 171 #[.slice none 0 0,.int .i64 n] w λe w'=>∃v,e=.returned v/\Below w.heap.size w w'/\w'.ownsRow w.heap.size 3 1 v 0 []:=by
 by_cases h0:n=0
 ·subst h0
  go_enter Tryz.func171,Tryz.ntmps171
  go_wp2
  go_ret
  exact⟨_,rfl,brefl _,World.ownsRow_nil _ _ _ _⟩
 ·obtain⟨i0,hi,hz0,hz1,hz2⟩:=info_parts info_int
  have hr:=λty=>Lib.run_append_nil_zeros (P:=Tryz.prog) w 22 3 ty 3 i0 (.int .i64 0) .i64 .i64 und_ints und_int hi hz0 n (by omega) (by omega) (by omega) (by rw[hz2];omega)
  have hge:=grownCap_ge w n 0 3
  have hle:=grownCap_le_maxLen w n 0 3 (by simp only[maxLen];omega)
  generalize grownCap w n 0 3=cap at*
  have hpos:(0:Int)<(n:Int):=by omega
  have hd1:decide ((n:Int)<0)=false:=by simp
  have hd2:decide ((0:Int)<(n:Int))=true:=by simp;omega
  have hfin:(w.drew.alloc (.cells (Builtin.zeroCells (Value.int .i64 0).cells n++Builtin.zeroCells (Value.int .i64 0).cells (cap-n)) 3)).ownsRow w.heap.size 3 1 (.slice (some ⟨w.heap.size,0,none⟩) 0 cap) 0 []:=by
   have:=World.ownsRow_made (base:=w.heap.size) (e:=3) (size:=1) w.drew (Builtin.zeroCells (Value.int .i64 0).cells n++Builtin.zeroCells (Value.int .i64 0).cells (cap-n)) cap (by simp) hle (by simp[size_zeroCells,Value.cells];omega)
   simpa using this
  have Hfin:=Lib.hid hfin
  have Hr:=Lib.hid hr
  clear hfin hr hge hle hi hz0 hz1 hz2
  go_enter Tryz.func171,Tryz.ntmps171
  go_wp2_with (at_builtin;refine Lib.wpList_append_run _ rfl _ _ 22 3 rfl _ _ rfl rfl _ _ (Hr.out _) ?_)
  go_ret
  exact⟨_,rfl,balloc (bdrew (brefl w) 1) _,Hfin.out⟩
structure CO(w W:World)(B b:Nat)(o1 n1 c1 o2 n2 c2:Nat)(xs ys:List Int):Prop where
 bel:Below w.heap.size w W
 s1:W.cell? ⟨B,0,none⟩=some (.slice (some ⟨b,o1,none⟩) n1 c1)
 s2:W.cell? ⟨B,1,none⟩=some (.slice (some ⟨b,o2,none⟩) n2 c2)
 e1:∀i x,xs[i]? =some x->W.cell? ⟨b,o1+i,none⟩=some (.int .i64 x)
 e2:∀i x,ys[i]? =some x->W.cell? ⟨b,o2+i,none⟩=some (.int .i64 x)
 lB:B<W.heap.size
 lb:b<W.heap.size
theorem CO.grown{w W W':World}{B b o1 n1 c1 o2 n2 c2:Nat}{xs ys:List Int}{row:Option Nat}(h:CO w W B b o1 n1 c1 o2 n2 c2 xs ys)(hB:B<w.heap.size)(hb:b<w.heap.size)(hg:W.grownBy W' row)(hr:∀k,row=some k->w.heap.size<=k):CO w W' B b o1 n1 c1 o2 n2 c2 xs ys:=by
 have hBl:Below w.heap.size W W':=⟨hg.os,hg.tape,hg.output,hg.size,λk hk=>hg.block k (by have:=h.bel.size;omega) (λe=>by have:=hr k e.symm;omega)⟩
 exact⟨h.bel.trans hBl,(hBl.cell (p:=⟨B,0,none⟩) hB).trans h.s1,(hBl.cell (p:=⟨B,1,none⟩) hB).trans h.s2,λi x hx=>(hBl.cell (p:=⟨b,o1+i,none⟩) hb).trans (h.e1 i x hx),λi x hx=>(hBl.cell (p:=⟨b,o2+i,none⟩) hb).trans (h.e2 i x hx),by have:=h.lB;have:=hg.size;omega,by have:=h.lb;have:=hg.size;omega⟩
theorem ints_add{W:World}{b o:Nat}{xs:List Int}(h:∀i x,xs[i]? =some x->W.cell? ⟨b,o+i,none⟩=some (.int .i64 x)):∀j u,(xs.map (Value.int .i64))[j]? =some u->W.cell? ((⟨b,o,none⟩:Addr).add j)=some u:=by
 intro j u hu
 rw[List.getElem?_map,Option.map_eq_some_iff]at hu
 obtain⟨x,hx,rfl⟩:=hu
 have hadd:(⟨b,o,none⟩:Addr).add j=⟨b,o+j,none⟩:=by unfold Addr.add;split<;>simp_all
 rw[hadd]
 exact h j x hx
theorem ints_one(xs:List Int):∀u∈xs.map (Value.int .i64),u.oneCell'=true:=by
 intro u hu
 obtain⟨x,_,rfl⟩:=List.mem_map.1 hu
 rfl
set_option maxHeartbeats 1000000 in
theorem concat_two(B b o1 n1 c1 o2 n2 c2:Nat)(xs ys:List Int)(w:World)(h:CO w w B b o1 n1 c1 o2 n2 c2 xs ys)(hx:xs.length=n1)(hy:ys.length=n2)(hn:n1+n2<=100):
 Calls Tryz.prog 132 #[.slice (some ⟨B,0,none⟩) 2 2] w λe w'=>∃v,e=.returned v/\Below w.heap.size w w'/\w'.ownsRow w.heap.size 3 1 v (n1+n2) ((xs++ys).map (.int .i64)):=by
 have hs1:=h.s1
 have hs2:=h.s2
 have hlB:=h.lB
 have hlb:=h.lb
 have H:=Lib.hid h
 clear h
 obtain⟨i0,hi0,hz0,hz1,hz2⟩:=info_parts info_int
 have q1:decide (((n1:Nat):Int)<0)=false:=by simp
 have q2:decide (((n1:Nat):Int)+((n2:Nat):Int)<0)=false:=by simp;omega
 go_enter Tryz.func132,Tryz.ntmps132
 go_wp2_with fail
 refine loop_n (λn a W=>w=W/\a.defers=[]/\∃i:Nat,i+n=2/\Fits (some (.slice (some ⟨B,0,none⟩) 2 2)::none::none::some (.int .i64 (if i=0 then 0 else if i=1 then(n1:Int)else(n1:Int)+(n2:Int)))::none::none::none::none::none::some (.slice (some ⟨B,0,none⟩) 2 2)::some (.int .i64 2)::some (.int .i64 (i:Nat))::none::none::none::none::none::none::none::none::none::none::none::none::none::none::none::none::none::none::none::none::none::none::none::none::[]) a.tmps.toList) 2 ?_ ?_
 ·refine⟨rfl,rfl,0,by omega,?_⟩
  repeat (first|exact fits_nil|refine fits_none ?_|refine fits_some ?_)
 intro n a W hI K hK
 obtain⟨rfl,hds,i,hin,hfit⟩:=hI
 obtain⟨f,hf⟩:=fits_act hfit
 rw[hds]at hf
 subst hf
 clear hfit hds
 simp only[fillP,Nat.reduceAdd]
 match i,hin with
 |0,hin=>
  go_wp2
  refine hK _ _ 1 (by omega) ⟨rfl,rfl,1,by omega,?_⟩
  repeat (first|exact fits_nil|refine fits_none ?_|refine fits_some ?_)
 |1,hin=>
  go_wp2
  refine hK _ _ 0 (by omega) ⟨rfl,rfl,2,by omega,?_⟩
  repeat (first|exact fits_nil|refine fits_none ?_|refine fits_some ?_)
 |2,hin=>
  clear hK
  go_wp2_with fail
  have hgr:=grow_nil (n1+n2) (by omega) w
  rw[Int.natCast_add]at hgr
  refine hgr.mono ?_
  clear hgr
  rintro e w1⟨v,rfl,hb1,hown⟩
  have HN1:CO w w1 B b o1 n1 c1 o2 n2 c2 xs ys:=H.out.grown hlB hlb (row:=none) ⟨hb1.os,hb1.tape,hb1.output,hb1.size,λk hk _=>hb1.block k hk⟩ (λk e=>by cases e)
  have HN:=Lib.hid HN1
  have Hown:=Lib.hid hown
  clear HN1 hown hb1 hs1 hs2
  go_wp2_with fail
  refine loop_n (λn a W=>∃i v,i+n=2/\Fits (none::none::none::none::none::none::some (v)::none::none::none::none::none::none::none::none::none::none::none::none::none::none::none::none::none::none::some (.slice (some ⟨B,0,none⟩) 2 2)::some (.int .i64 2)::some (.int .i64 (i:Nat))::none::none::none::none::none::none::none::none::[]) a.tmps.toList/\a.defers=[]/\CO w W B b o1 n1 c1 o2 n2 c2 xs ys/\
   ((i=0/\W.ownsRow w.heap.size 3 1 v 0 [])\/(i=1/\W.ownsRow w.heap.size 3 1 v n1 (xs.map (.int .i64)))\/(i=2/\W.ownsRow w.heap.size 3 1 v (n1+n2) ((xs++ys).map (.int .i64))))) 2 ?_ ?_
  ·refine⟨0,v,by omega,?_,rfl,HN.out,.inl ⟨rfl,Hown.out⟩⟩
   repeat (first|exact fits_nil|refine fits_none ?_|refine fits_some ?_)
  clear HN Hown
  intro n a W hI K hK
  obtain⟨i,v,hin,hfit,hds,hN,hcs⟩:=hI
  obtain⟨f,hf⟩:=fits_act hfit
  rw[hds]at hf
  subst hf
  clear hfit hds
  simp only[fillP,Nat.reduceAdd]
  rcases hcs with⟨rfl,hown⟩|⟨rfl,hown⟩|⟨rfl,hown⟩
  ·have s1:=hN.s1
   have s2:=hN.s2
   have zB:=hN.lB
   have HN:=Lib.hid hN
   have Hown:=Lib.hid hown
   have Hadd:=Lib.hid (ints_add hN.e1)
   have hrow:∀k,v.ownBlock=some k->w.heap.size<=k:=λk hk=>(hown.lt k hk).1
   have Hrow:=Lib.hid hrow
   clear hN hown hrow
   go_wp2_with (at_builtin;refine wpList_append_own _ rfl _ _ 22 rfl w.heap.size 3 i0 (.int .i64 0) 1 8 und_ints hi0 hz0 hz1 hz2 rfl (by decide) v 0 _ rfl Hown.out ⟨b,o1,none⟩ n1 c1 (xs.map (.int .i64)) rfl (by simp[hx]) Hadd.out (ints_one xs) (by simp only[maxLen];omega) (by omega) (by have:=HN.out.bel.size;omega) ?_;intro v2 w4 hown2 hgr _;have HN4:=Lib.hid (HN.out.grown hlB hlb hgr Hrow.out);have Hown4:=Lib.hid hown2;clear hown2 hgr)
   refine hK _ _ 1 (by omega) ⟨1,v2,by omega,?_,rfl,HN4.out,.inr (.inl ⟨rfl,by simpa using Hown4.out⟩)⟩
   repeat (first|exact fits_nil|refine fits_none ?_|refine fits_some ?_)
  ·have s1:=hN.s1
   have s2:=hN.s2
   have zB:=hN.lB
   have HN:=Lib.hid hN
   have Hown:=Lib.hid hown
   have Hadd:=Lib.hid (ints_add hN.e2)
   have hrow:∀k,v.ownBlock=some k->w.heap.size<=k:=λk hk=>(hown.lt k hk).1
   have Hrow:=Lib.hid hrow
   clear hN hown hrow
   go_wp2_with (at_builtin;refine wpList_append_own _ rfl _ _ 22 rfl w.heap.size 3 i0 (.int .i64 0) 1 8 und_ints hi0 hz0 hz1 hz2 rfl (by decide) v n1 _ rfl Hown.out ⟨b,o2,none⟩ n2 c2 (ys.map (.int .i64)) rfl (by simp[hy]) Hadd.out (ints_one ys) (by simp only[maxLen];omega) (by omega) (by have:=HN.out.bel.size;omega) ?_;intro v2 w4 hown2 hgr _;have HN4:=Lib.hid (HN.out.grown hlB hlb hgr Hrow.out);have Hown4:=Lib.hid hown2;clear hown2 hgr)
   refine hK _ _ 0 (by omega) ⟨2,v2,by omega,?_,rfl,HN4.out,.inr (.inr ⟨rfl,by simpa using Hown4.out⟩)⟩
   repeat (first|exact fits_nil|refine fits_none ?_|refine fits_some ?_)
  ·have HN:=Lib.hid hN
   have Hown:=Lib.hid hown
   clear hN hown hK
   go_wp2
   go_ret
   exact⟨v,rfl,HN.out.bel,Hown.out⟩
 |i+3,hin=>omega
end Go.Proofs.YtednconodjeniaaGreat.C
namespace Go.Proofs.YtednconodjeniaaGreat.C
open Go.RowKit Go.Shelf
def TwoSl(b o1 n1 c1 o2 n2 c2:Nat)(v:Value)(W:World):Prop:=∃g,v=.slice (some ⟨g,0,none⟩) 2 2/\g<W.heap.size/\W.cell? ⟨g,0,none⟩=some (.slice (some ⟨b,o1,none⟩) n1 c1)/\W.cell? ⟨g,1,none⟩=some (.slice (some ⟨b,o2,none⟩) n2 c2)
theorem TwoSl.stab{b o1 n1 c1 o2 n2 c2:Nat}:∀v W W',Gr W W'->TwoSl b o1 n1 c1 o2 n2 c2 v W->TwoSl b o1 n1 c1 o2 n2 c2 v W':=λ_ _ _ hG⟨g,h1,h2,h3,h4⟩=>
 ⟨g,h1,by have:=hG.size;omega,(hG.cell (p:=⟨g,0,none⟩) h2).trans h3,(hG.cell (p:=⟨g,1,none⟩) h2).trans h4⟩
def IsInts(n:Nat)(xs:List Int)(v:Value)(W:World):Prop:=∃G c,v=.slice G n c/\Sl 1 encI W W.heap.size G n c xs
theorem IsInts.stab{n:Nat}{xs:List Int}:∀v W W',Gr W W'->IsInts n xs v W->IsInts n xs v W':=λ_ _ _ hG⟨G,c,h1,h2⟩=>⟨G,c,h1,h2.later hG⟩
def IsRib(L n:Nat)(xs:List Int)(v:Value)(W:World):Prop:=∃G c,v=.agg #[.int .i64 L,.slice G n c]/\Sl 1 encI W W.heap.size G n c xs
theorem IsRib.stab{L n:Nat}{xs:List Int}:∀v W W',Gr W W'->IsRib L n xs v W->IsRib L n xs v W':=λ_ _ _ hG⟨G,c,h1,h2⟩=>⟨G,c,h1,h2.later hG⟩
def IsTab(L:Nat)(xs:List Int)(ks:List Kd)(v:Value)(W:World):Prop:=∃T,v=.pointer (some ⟨T,0,none⟩)/\T<W.heap.size/\W.cell? ⟨T,28+L,none⟩=some (.int .i64 (aheadAt L (Fst xs L) ks L L))
theorem IsTab.stab{L:Nat}{xs:List Int}{ks:List Kd}:∀v W W',Gr W W'->IsTab L xs ks v W->IsTab L xs ks v W':=λ_ _ _ hG⟨T,h1,h2,h3⟩=>⟨T,h1,by have:=hG.size;omega,(hG.cell (p:=⟨T,28+L,none⟩) h2).trans h3⟩
def lessF(fs:List Int)(f:Nat):List Int:=fs.take f++fs.drop (f+1)
def costP(L:Nat)(fs:List Int)(ks:List Kd)(f:Int):Int×Int:=
 if inR 0 ((fs.length:Int)-1) f then(aheadAt L (Fst (lessF fs f.toNat) L) ks L L-aheadAt L (Fst fs L) ks L L,0)else(0,2)
set_option maxRecDepth 100000 in
set_option maxHeartbeats 2000000 in
theorem Cost_ok(L:Nat)(FA:Option Addr)(fn fc:Nat)(fs:List Int)(KA:Option Addr)(kc:Nat)(ks:List Kd)(f:Int)(w:World)(hfs:Sl 1 encI w w.heap.size FA fn fc fs)(hks:Sl 3 encK w w.heap.size KA ks.length kc ks)
 (he:rkE L fs ks=0)(hfl:fn<=24):
 Calls Tryz.prog 74 #[.agg #[.int .i64 L,.slice FA fn fc],.slice KA ks.length kc,.int .i64 f] w λe w'=>e=.returned (.tuple #[.int .i64 (costP L fs ks f).1,.int .i64 (costP L fs ks f).2])/\Below w.heap.size w w':=by
 have ho:=Lib.hid (λW hb=>open_ok L FA fn fc fs KA kc ks W (hfs.later (w':=W) hb) (hks.later hb) he)
 have hcl:=hfs.len
 have hbig:=hfs.big
 have hcap:=hfs.cap
 have Hfs:=Lib.hid hfs
 have Hks:=Lib.hid hks
 obtain⟨r,hr⟩:∃r,costP L fs ks f=r:=⟨_,rfl⟩
 rw[hr]
 have HR:=Lib.hid hr
 clear hfs hks he hr
 go_enter Tryz.func74,Tryz.ntmps74
 go_wp2_with fail
 refine(ho.out _ (balloc (brefl w) _)).mono ?_
 rintro e w1⟨T,rfl,hb1,hT⟩
 have hB1:=Below.later (balloc (brefl w) _) hb1
 have k0:w1.cell? ⟨w.heap.size,0,none⟩=some (.int .i64 L):=(hb1.cell (p:=⟨w.heap.size,0,none⟩) (by simp)).trans (by go_simp)
 have k1:w1.cell? ⟨w.heap.size,1,none⟩=some (.slice FA fn fc):=(hb1.cell (p:=⟨w.heap.size,1,none⟩) (by simp)).trans (by go_simp)
 have z0:w.heap.size<w1.heap.size:=by have:=hb1.size;simp at this;omega
 have HB1:=Lib.hid hB1
 have HT:=Lib.hid hT
 clear hB1 hb1 hT
 go_wp2_with fail
 refine(within_one 0 ((fn:Int)-1) f w1.heap.size _ (by simp) (by go_simp)).mono ?_
 rintro e w2⟨rfl,hb2⟩
 have hG2:Gr w1 w2:=Below.later (balloc (brefl w1) _) hb2
 have k0':=(hG2.cell (p:=⟨w.heap.size,0,none⟩) z0).trans k0
 have k1':=(hG2.cell (p:=⟨w.heap.size,1,none⟩) z0).trans k1
 have z0':w.heap.size<w2.heap.size:=by have:=hG2.size;omega
 have HB2:=Lib.hid (Below.later HB1.out hG2)
 have HT2:=Lib.hid (HT.out.later hG2)
 clear hb2 hG2 HT HB1 k0 k1 z0
 cases h1:inR 0 ((fn:Int)-1) f with
 |false=>
  have HR2:=Lib.hid (show r=(0,2)by rw[<-HR.out,costP,hcl,h1];rfl)
  clear h1
  go_wp2
  go_ret2
  exact⟨by rw[HR2.out];rfl,HB2.out⟩
 |true=>
  have HR2:=Lib.hid (show r=(aheadAt L (Fst (lessF fs f.toNat) L) ks L L-aheadAt L (Fst fs L) ks L L,0)by rw[<-HR.out,costP,hcl,h1];rfl)
  rw[inR_iff]at h1
  obtain⟨f1,f2⟩:=h1
  obtain⟨m,rfl⟩:∃m:Nat,f=m:=⟨f.toNat,by omega⟩
  obtain⟨fb,fo,rfl,hfb,hfc⟩:=Hfs.out.at_ (by omega)
  have i1:(0:Int)<=(m:Int):=by omega
  have i2:(m:Int)<=(fc:Int):=by omega
  have i3:(m:Int)+1<=(fn:Int):=by omega
  have i4:(0:Int)<=(m:Int)+1:=by omega
  have i5:((m:Int)+1).toNat=m+1:=by omega
  have i6:(fn:Int)<=(fc:Int):=by omega
  have i7:m<=fc:=by omega
  have i8:m+1<=fn:=by omega
  have i9:fn<=fc:=by omega
  obtain⟨o2,hif,ho2⟩:∃o2,(if fc=m+1 then(some ⟨fb,fo,none⟩:Option Addr)else some ⟨fb,fo+(m+1),none⟩)=some ⟨fb,o2,none⟩/\(fc=m+1\/o2=fo+(m+1)):=by
   by_cases hq:fc=m+1
   ·exact⟨fo,by rw[if_pos hq],.inl hq⟩
   ·exact⟨fo+(m+1),by rw[if_neg hq],.inr rfl⟩
  have Hif:=Lib.hid hif
  have Hfc:=Lib.hid hfc
  clear hfc hif
  go_wp2_with fail
  refine dag 17 (by kernel_rfl) (by kernel_rfl) (.is ?_::.is ?_::.is ?_::.is ?_::.is ?_::.is ?_::.is ?_::.is ?_::.is ?_::.is ?_::.is ?_::.like (TwoSl fb fo m fc o2 (fn-(m+1)) (fc-(m+1)))::.like (IsInts (fn-1) (lessF fs m))::.like (IsRib L (fn-1) (lessF fs m))::.is ?_::.like (IsTab L (lessF fs m) ks)::.like (IsTab L (lessF fs m) ks)::[]) rfl ?st ?ob
  case st=>repeat (first|exact stab_nil|refine stab_is ?_|refine stab_like TwoSl.stab ?_|refine stab_like IsInts.stab ?_|refine stab_like IsRib.stab ?_|refine stab_like IsTab.stab ?_)
  case ob=>
   intro env W' hG
   obtain⟨hc,hf⟩:=bcell hG
   iterate 10 (refine obls_is ?_ ?_;unfold doesAt;go_simp;(try go_bits);refine⟨brefl _,?_⟩;rfl;intro K hK;go_simp;refine hK _ ?_;clear hK K)
   refine obls_is ?_ ?_
   ·unfold doesAt
    go_simp
    rw[Hif.out]
    refine⟨brefl _,?_⟩
    rfl
   intro K hK
   go_simp
   refine hK _ ?_
   clear hK K
   refine obls_like (λ_=>?_) ?_
   ·unfold doesAt
    go_simp
    exact⟨balloc (brefl _) _,W'.heap.size,rfl,by simp,by go_simp,by go_simp⟩
   intro K hK
   go_simp
   refine hK _ ?_
   clear hK K
   refine obls_like (λhl=>?_) ?_
   ·obtain⟨g,hg,hg1,hg2,hg3⟩:TwoSl fb fo m fc o2 (fn-(m+1)) (fc-(m+1)) (env 11) W':=hl ⟨11,.data⟩ (by simp) rfl
    have hbl:=HB2.out.trans (hG.mono HB2.out.size)
    have hCO:CO W' W' g fb fo m fc o2 (fn-(m+1)) (fc-(m+1)) (fs.take m) (fs.drop (m+1)):=by
     refine⟨brefl _,hg2,hg3,λi x hx=>?_,λi x hx=>?_,hg1,by have:=hbl.size;omega⟩
     ·rw[List.getElem?_take]at hx
      split at hx
      ·have:=Hfc.out i x hx 0 _ rfl
       simp only[Nat.mul_one,Nat.add_zero]at this
       exact(hbl.cell (p:=⟨fb,fo+i,none⟩) hfb).trans this
      ·cases hx
     ·rw[List.getElem?_drop]at hx
      have hlt:=(List.getElem?_eq_some_iff.1 hx).1
      rcases ho2 with h|rfl
      ·omega
      ·have:=Hfc.out (m+1+i) x hx 0 _ rfl
       simp only[Nat.mul_one,Nat.add_zero]at this
       rw[show fo+(m+1)+i=fo+(m+1+i)from by omega]
       exact(hbl.cell (p:=⟨fb,fo+(m+1+i),none⟩) hfb).trans this
    have hcc:=concat_two _ _ _ _ _ _ _ _ _ _ W' hCO (by simp;omega) (by simp;omega) (by omega)
    clear hCO hbl hg2 hg3
    unfold doesAt
    go_simp
    refine hcc.mono ?_
    rintro e w3⟨v,rfl,hb3,hown⟩
    refine⟨_,rfl,hb3,?_⟩
    obtain⟨G,c,rfl,hsl⟩:=own_sl hown
    rw[show m+(fn-(m+1))=fn-1 from by omega]at hsl ⊢
    exact⟨G,c,rfl,hsl⟩
   intro K hK
   go_simp
   refine hK _ ?_
   clear hK K
   refine obls_like (λhl=>?_) ?_
   ·obtain⟨G,c,hE,hsl⟩:IsInts (fn-1) (lessF fs m) (env 12) W':=hl ⟨12,.data⟩ (by simp) rfl
    have Hsl:=Lib.hid hsl
    clear hsl
    unfold doesAt
    go_simp
    exact⟨brefl _,G,c,rfl,Hsl.out⟩
   intro K hK
   go_simp
   refine hK _ ?_
   clear hK K
   (refine obls_is ?_ ?_;unfold doesAt;go_simp;(try go_bits);refine⟨brefl _,?_⟩;rfl;intro K hK;go_simp;refine hK _ ?_;clear hK K)
   refine obls_like (λhl=>?_) ?_
   ·obtain⟨G,c,hE,hsl⟩:IsRib L (fn-1) (lessF fs m) (env 13) W':=hl ⟨13,.data⟩ (by simp) rfl
    have hnt:=newTable_any L G (fn-1) c (lessF fs m) KA kc ks W' HT2.out.l1 HT2.out.l2 HT2.out.kok hsl (Hks.out.later (HB2.out.trans (hG.mono HB2.out.size)))
    have hL2:=HT2.out.l2
    clear hsl
    unfold doesAt
    go_simp
    refine hnt.mono ?_
    rintro e w3⟨T2,_,rfl,hb3,htab⟩
    exact⟨_,rfl,hb3,T2,rfl,htab.core.lt,htab.ah L (by omega)⟩
   intro K hK
   go_simp
   refine hK _ ?_
   clear hK K
   refine obls_like (λhl=>?_) ?_
   ·have hE:IsTab L (lessF fs m) ks (env 15) W':=hl ⟨15,.data⟩ (by simp) rfl
    unfold doesAt
    go_simp
    first|exact⟨brefl _,hE⟩|exact brefl _
   intro K hK
   go_simp
   refine hK _ ?_
   clear hK K
   refine obls_nil (λhall=>?_)
   obtain⟨T2,hE2,hT2l,hT2c⟩:IsTab L (lessF fs m) ks (env 16) W':=hall 16 _ rfl
   have c0':=(hc w.heap.size 0 z0').trans k0'
   have t0':=(hG.cell (p:=⟨T,28+L,none⟩) HT2.out.tab.core.lt).trans (HT2.out.tab.ah L (by have:=HT2.out.l2;omega))
   have zT:=HT2.out.tab.core.lt
   have zW:=hG.size
   have zT':T<W'.heap.size:=by omega
   have zw':w.heap.size<W'.heap.size:=by omega
   have hL2:=HT2.out.l2
   have j0:(L:Int)<25:=by omega
   have ba:=aheadAt_bd (L:=L) (F:=Fst (lessF fs m) L) HT2.out.kok L L
   have bb:=aheadAt_bd (L:=L) (F:=Fst fs L) HT2.out.kok L L
   obtain⟨ba1,ba2⟩:=ba
   obtain⟨bb1,bb2⟩:=bb
   have HG:=Lib.hid (HB2.out.trans (hG.mono HB2.out.size))
   rw[Int.toNat_natCast]at HR2
   rw[hE2]
   generalize aheadAt L (Fst (lessF fs m) L) ks L L=A1 at*
   generalize aheadAt L (Fst fs L) ks L L=A2 at*
   clear hall hc hf hG hE2 k0' k1' z0'
   go_wp2_with fail
   refine dag 17 (by kernel_rfl) (by kernel_rfl) (.is ?_::.is ?_::.is ?_::.is ?_::.is ?_::.is ?_::.is ?_::.is ?_::.is ?_::.is ?_::.is ?_::.is ?_::.is ?_::.is ?_::.is ?_::.is ?_::.is ?_::[]) rfl ?st2 ?ob2
   case st2=>simp[Spec.ok]
   case ob2=>
    intro env2 W5 hG5
    obtain⟨hc,hf⟩:=bcell hG5
    repeat (refine obls_is ?_ ?_;unfold doesAt;go_simp;(try go_bits);refine⟨brefl _,?_⟩;rfl;intro K hK;go_simp;refine hK _ ?_;clear hK K)
    refine obls_nil (λ_=>?_)
    go_wp2
    go_ret2
    exact⟨by rw[HR2.out];rfl,HG.out.trans (hG5.mono HG.out.size)⟩
end Go.Proofs.YtednconodjeniaaGreat.C
namespace Go.Proofs.YtednconodjeniaaGreat.C
open Go.RowKit Go.Shelf
theorem leavesM_cells{P:Program}{F:Fence}{n:Nat}{fn:Func}{tmps:Array Value}{R:Ending->World->Prop}{B:Nat}:∀(ds:List Deferred)(W:World)(v:Value),Marks B W ds->
 (∀W',Kept B W W'->(results fn tmps).run P W'=.ok v W')->(∀W',Kept B W W'->R (.returned v) W')->LeavesInM F n P fn tmps R ds .returning W:=by
 intro ds
 induction ds with
 |nil=>
  intro W v _ hr hR
  exact⟨v,hr W (Kept.refl B W),hR W (Kept.refl B W)⟩
 |cons d ds ih=>
  intro W v hm hr hR
  obtain⟨Ds,hds,hnd,hD⟩:=hm
  cases Ds with
  |nil=>simp at hds
  |cons D Ds=>
   simp only[List.map_cons,List.cons.injEq]at hds
   obtain⟨rfl,rfl⟩:=hds
   obtain⟨hDB,hDh⟩:=hD D (by simp)
   refine⟨by simp,.inl ⟨D,W.putObj D (.deferred none),rfl,run_takeDeferred hDh,?_⟩⟩
   have hk:Kept B W (W.putObj D (.deferred none)):=Kept.of_grown (grownBy_putObj' W D _) (λr e=>by cases e;exact⟨hDB,_,hDh,rfl⟩)
   refine ih _ v ⟨Ds,rfl,(List.nodup_cons.1 hnd).2,λE hE=>⟨(hD E (by simp[hE])).1,?_⟩⟩ (λW' hk'=>hr W' (hk.trans hk')) (λW' hk'=>hR W' (hk.trans hk'))
   have hne:E≠D:=λe=>(List.nodup_cons.1 hnd).1 (e▸hE)
   rw[World.putObj_heap_other hne]
   exact(hD E (by simp[hE])).2
theorem postM_cells{P:Program}{fn:Func}{R:Ending->World->Prop}{a:Act}{B:Nat}{W:World}{v:Value}(hm:Marks B W a.defers)(hr:∀W',Kept B W W'->(results fn a.tmps).run P W'=.ok v W')(hR:∀W',Kept B W W'->R (.returned v) W'):bodyPostM Fence.wide 9 P fn R .ret a W:=
 leavesM_cells _ _ _ hm hr hR
theorem doesAt_append{P:Program}{o:Oper}{a:Act}{W:World}{R:Value->World->Prop}(s x:Operand)(t tn:TypeId)
 (ho:o.op=.call {callee:=.builtin .append,args:=#[s,x],argTypes:=#[t,tn]})(vs vx:Value)(hs:a.eval s=vs)(hx:a.eval x=vx)
 (v':Value)(w':World)(hr:(Builtin.append_ #[t,tn] o.type #[vs,vx]).run P W=.ok v' w')(h:R v' w'):doesAt P o a W R:=by
 unfold doesAt execOp
 simp only[ho,resolve,invoke,builtin,Sem.run_bind,Sem.run_pure,Result.andThen_ok,List.map_toArray,List.map_cons,List.map_nil,hs,hx,hr]
 exact h
theorem results_cells2{P:Program}{fn:Func}{p q:Tmp}{tp tq:TypeId}(h:fn.results=#[.cell p tp,.cell q tq])(tmps:Array Value)(w:World)(a b:Nat)(x y:Int)(kx ky:IntKind)(hp:tmps.getD p undef=.pointer (some ⟨a,0,none⟩))(hq:tmps.getD q undef=.pointer (some ⟨b,0,none⟩))
 (l1:(loadVar tp ⟨a,0,none⟩).run P w=.ok (.int kx x) w)(l2:(loadVar tq ⟨b,0,none⟩).run P w=.ok (.int ky y) w):
 (results fn tmps).run P w=.ok (.tuple #[.int kx x,.int ky y]) w:=by
 rw[Array.getD_eq_getD_getElem?]at hp hq
 simp[results,h,hp,hq,l1,l2,asAddr]
set_option maxHeartbeats 400000 in
theorem outP_any(x:Int)(w:World):Calls Tryz.prog 36 (#[.int .i64 x]++#[]) w λe w'=>e=.returned (.bool (outP x))/\Below w.heap.size w w':=by
 by_cases h:x<0
 ·have h1:decide (x<0)=true:=by simpa using h
  have HE:=Lib.hid (show outP x=true by simp[outP,h])
  clear h
  go_enter Tryz.func36,Tryz.ntmps36
  go_wp2
  go_ret
  exact⟨ret_bool HE.out.symm,brefl _⟩
 ·have h1:decide (x<0)=false:=by simpa using h
  have HE:=Lib.hid (show outP x=decide (24000<x)by simp[outP,h])
  clear h
  go_enter Tryz.func36,Tryz.ntmps36
  go_wp2
  go_ret
  exact⟨ret_bool HE.out.symm,brefl _⟩
attribute [local go_sem] Oper.semAt_some
theorem load_long(a:Addr)(W:World)(x:Int)(h:W.cell? a=some (.int .i64 x)):(loadVar 2 a).run Tryz.prog W=.ok (.int .i64 x) W:=by
 go_simp
theorem load_err(a:Addr)(W:World)(x:Int)(h:W.cell? a=some (.int .i64 x)):(loadVar 25 a).run Tryz.prog W=.ok (.int .i64 x) W:=by
 go_simp
structure RC(tp tq:TypeId)(w W:World)(x e:Int):Prop where
 bel:Below w.heap.size w W
 b2:Blk W (w.heap.size+1+1) tp #[.int .i64 x]
 b3:Blk W (w.heap.size+1+1+1) tq #[.int .i64 e]
section
variable{tp tq:TypeId}{w W W':World}{x e:Int}
theorem RC.later(h:RC tp tq w W x e)(hb:Below W.heap.size W W'):RC tp tq w W' x e:=⟨Below.later h.bel hb,h.b2.later hb,h.b3.later hb⟩
theorem RC.kept{B:Nat}(h:RC tp tq w W x e)(hk:Kept B W W')(hB:w.heap.size<=B):RC tp tq w W' x e:=
 ⟨h.bel.trans ⟨hk.os,hk.tape,hk.output,hk.size,λi hi=>hk.low i (by omega) (by have:=h.bel.size;omega)⟩,h.b2.kept hk,h.b3.kept hk⟩
theorem RC.setX(h:RC tp tq w W x e)(y:Int):RC tp tq w (W.setCell ⟨w.heap.size+1+1,0,none⟩ (.int .i64 y)) y e:=
 ⟨h.bel.setCell (by show w.heap.size<=w.heap.size+1+1;omega) _,h.b2.set 0 _,h.b3.other (by show w.heap.size+1+1≠_;omega) _⟩
theorem RC.setE(h:RC tp tq w W x e)(y:Int):RC tp tq w (W.setCell ⟨w.heap.size+1+1+1,0,none⟩ (.int .i64 y)) x y:=
 ⟨h.bel.setCell (by show w.heap.size<=w.heap.size+1+1+1;omega) _,h.b2.other (by show w.heap.size+1+1+1≠_;omega) _,h.b3.set 0 _⟩
theorem RC.cells(h:RC tp tq w W x e):W.cell? ⟨w.heap.size+1+1,0,none⟩=some (.int .i64 x)/\W.cell? ⟨w.heap.size+1+1+1,0,none⟩=some (.int .i64 e)/\W.frozen? ⟨w.heap.size+1+1,0,none⟩=false/\W.frozen? ⟨w.heap.size+1+1+1,0,none⟩=false/\w.heap.size+1+1+1<W.heap.size:=
 ⟨h.b2.cell 0,h.b3.cell 0,h.b2.frozen 0,h.b3.frozen 0,h.b3.lt⟩
end
theorem RC.new(tp tq t0 t1:TypeId)(w:World)(c0 c1:Array Value):RC tp tq w ((((w.alloc (.cells c0 t0)).alloc (.cells c1 t1)).alloc (.cells #[.int .i64 0] tp)).alloc (.cells #[.int .i64 0] tq)) 0 0:=by
 refine⟨balloc (balloc (balloc (balloc (brefl w) _) _) _) _,?_,?_⟩
 ·have h5:=(Blk.new ((w.alloc (.cells c0 t0)).alloc (.cells c1 t1)) tp #[.int .i64 0]).alloc (.cells #[.int .i64 0] tq)
  rw[World.size_alloc,World.size_alloc]at h5
  exact h5
 ·have h5:=Blk.new (((w.alloc (.cells c0 t0)).alloc (.cells c1 t1)).alloc (.cells #[.int .i64 0] tp)) tq #[.int .i64 0]
  rw[World.size_alloc,World.size_alloc,World.size_alloc]at h5
  exact h5
set_option maxRecDepth 100000 in
set_option maxHeartbeats 1000000 in
theorem CheckPrices_bad(L:Int)(FA:Option Addr)(fn fc:Nat)(fs:List Int)(KA:Option Addr)(kc:Nat)(ks:List Kd)(PA:Option Addr)(pn pc:Nat)(w:World)(hfs:Sl 1 encI w w.heap.size FA fn fc fs)(hks:Sl 3 encK w w.heap.size KA ks.length kc ks)(hne:rkE L fs ks≠0):
 Calls Tryz.prog 14 #[.agg #[.int .i64 L,.slice FA fn fc],.slice KA ks.length kc,.slice PA pn pc] w λe w'=>e=.returned (.tuple #[.int .i64 0,.int .i64 (rkE L fs ks)])/\Below w.heap.size w w':=by
 have ho:=Lib.hid (λW hb=>open_bad L FA fn fc fs KA kc ks W (hfs.later (w':=W) hb) (hks.later hb) hne)
 generalize rkE L fs ks=re at*
 have hn2:(re==0)=false:=by simpa using hne
 have hn3:(re != 0)=true:=by simpa using hne
 clear hne hfs hks
 refine calls_of_marks Tryz.func14 rfl ?_
 simp only[Tryz.ntmps14,List.size_toArray,List.length_cons,List.length_nil,Nat.reduceAdd,Nat.reduceSub,Array.replicate_succ,Array.replicate_zero,List.push_toArray,List.append_toArray,List.nil_append,List.cons_append]
 go_wp2_with fail
 refine(ho.out _ (balloc (balloc (balloc (balloc (brefl w) _) _) _) _)).mono ?_
 rintro e w1⟨rfl,hb1⟩
 have hR:=(RC.new 2 25 24 30 w #[.int .i64 L,.slice FA fn fc] #[.slice KA ks.length kc]).later hb1
 obtain⟨r0,r1,r2,r3,r4⟩:=hR.cells
 have r5:w.heap.size+1+1<w1.heap.size:=by omega
 have HR:=Lib.hid (((hR.setX 0).setE re).later (balloc (brefl _) (.cells #[.pointer none] 72)))
 clear hb1 hR
 go_wp2_with fail
 refine postM_cells (B:=w.heap.size) (v:=.tuple #[.int .i64 0,.int .i64 re]) ?_ (λW' hk=>?_) (λW' hk=>?_)
 ·exact Marks.nil _ _
 ·obtain⟨r0,r1,_⟩:=(HR.out.kept hk (Nat.le_refl _)).cells
  exact results_cells2 rfl _ W' _ _ 0 re .i64 .i64 rfl rfl (load_long _ _ _ r0) (load_err _ _ _ r1)
 ·exact⟨rfl,(HR.out.kept hk (Nat.le_refl _)).bel⟩
end Go.Proofs.YtednconodjeniaaGreat.C
