/- What the filling is worth: the document's late loads, and as many as its least. No program. · steam's Keep: its test, whether so many loads are enough for some logs. · steam's Late, Hours, Fewest, Need, CheckHours: the error, or what they return. · steam's Late, Fewest, Need, CheckHours: valid or not. · steam's CheckProof: valid or not. · steam's Keep: the most logs for so many loads. · steam's back: a yard whose hours are counted back. -/
import Derived.Test.YtifehdoghfnhoaaGreatDoorZSMapG
import Derived.Test.YtifehdoghfnhoaaGreatDoorZSPlan
import Derived.Test.YtifehdoghfnhoaaGreatDoorZSPick
import Derived.Deep.AppendLies
import Derived.Deep.RegionLaw
import Derived.Deep.DeepCutAuto
namespace Go.Proofs.YtifehdoghfnhoaaGreatDoor
open Go.RowKit Go.Shelf
section
variable{α β:Type}(f:α->β)(lo hi:β->Int)
theorem needW_map(L:Nat)(all:List α)(a b:Int):Fill.needW (λx=>lo (f x)) (λx=>hi (f x)) L all a b=Fill.needW lo hi L (all.map f) a b:=by
 unfold Fill.needW
 rw[List.countP_map];rfl
theorem windowsP_map(all:List α):Fill.windowsP (λx=>lo (f x)) (λx=>hi (f x)) all=Fill.windowsP lo hi (all.map f):=by
 unfold Fill.windowsP
 rw[List.flatMap_map]
 congr 1
 funext a
 rw[List.filter_map,List.map_map]
 rfl
theorem leastAt_map(L:Nat)(all:List α):∀n,Fill.leastAt (λx=>lo (f x)) (λx=>hi (f x)) L all n=Fill.leastAt lo hi L (all.map f) n
 |0=>rfl
 |n+1=>by
  funext j
  unfold Fill.leastAt Fill.leastStep
  rw[leastAt_map L all n,windowsP_map]
  simp only[needW_map]
end
theorem rs_range(rs:List Rg):(List.range rs.length).map (λi=>rs.getD i ⟨0,0⟩)=rs:=by
 apply List.ext_getElem
 ·simp
 ·intro i h1 h2
  simp[List.getD,h2]
theorem la_fill{rs:List Rg}(n:Nat)(L:Nat):Fill.leastAt (loAt rs) (hiAt rs) L (List.range rs.length) n=Fill.leastAt Rg.lo Rg.hi L rs n:=by
 have h:=leastAt_map (λi:Nat=>rs.getD i ⟨0,0⟩) Rg.lo Rg.hi L (List.range rs.length) n
 rw[rs_range]at h
 exact h
theorem late_congr{A B:Nat->Int}(n:Nat)(h:∀j,j<=n->A j=B j):Fill.lateP A n=Fill.lateP B n:=by
 unfold Fill.lateP
 rw[List.flatMap_def,List.flatMap_def]
 congr 1
 exact List.map_congr_left λj hj=>by
  have:=List.mem_range.1 hj
  rw[h (j+1) (by omega),h j (by omega)]
theorem fill_late{rs:List Rg}{L:Nat}{l:List Nat}{ts:List Int}{H:Nat->Int}(h:FillOk rs L l ts H)(hr:RsOk rs)(hL:1<=L):ts=Fill.lateP (LA rs L) 101/\(ts.length:Int)=LA rs L 101:=by
 have hb:∀x∈List.range rs.length,0<=loAt rs x/\loAt rs x<=hiAt rs x/\hiAt rs x<=100:=λx hx=>hr.at_ (List.mem_range.1 hx)
 have hlen:l.length=rs.length:=by rw[h.perm.length_eq,List.length_range]
 have h1:=Fill.late_fill (loAt rs) (hiAt rs) L hL (List.range rs.length) l hb h.srt (λx hx=>h.perm.mem_iff.1 hx) (λp=>h.perm.countP_eq p) rs.length (by omega)
 have h2:=Fill.least_fill (loAt rs) (hiAt rs) L hL (List.range rs.length) l (λx hx=>(hb x hx).1) (λx hx=>(hb x hx).2.1) h.srt (λx hx=>h.perm.mem_iff.1 hx) (λp=>h.perm.countP_eq p) rs.length (by omega) 101 101 (Nat.le_refl _)
 rw[la_fill]at h1 h2
 rw[<-h.ts_eq]at h1 h2
 refine⟨?_,?_⟩
 ·rw[<-h1]
  exact late_congr 101 λj hj=>least_low rs L 101 j hj
 ·rw[least_low rs L 101 101 (Nat.le_refl _)]at h2
  rw[h2]
  congr 1
  symm
  rw[List.countP_eq_length]
  intro t ht
  rw[h.ts_eq]at ht
  obtain⟨x,hx,rfl⟩:=Fill.fillL_mem (loAt rs) (hiAt rs) L rs.length l t ht
  have:=hb x (h.perm.mem_iff.1 hx)
  simp;omega
end Go.Proofs.YtifehdoghfnhoaaGreatDoor
namespace Go.Proofs.YtifehdoghfnhoaaGreatDoor
open Go.RowKit Go.Shelf
theorem own_slI{W:World}{base n:Nat}{e:TypeId}{v:Value}{ts:List Int}(h:W.ownsRow base e 1 v n (ts.map (.int .i64)))(hx:ts.length=n):∃A c,v=.slice A n c/\Sl 1 encI W W.heap.size A n c ts:=by
 have e1:∀l:List Int,l.flatMap encI=l.map (.int .i64):=λl=>by
  induction l with
  |nil=>rfl
  |cons t l ih=>rw[List.flatMap_cons,ih];rfl
 rw[<-e1]at h
 exact own_slG (k:=1) (enc:=encI) (λ_=>rfl) h hx
structure BX(w W:World)(B P:Nat)(ty:TypeId)(L:Int)(v:Value)(xs:List Rg):Prop where
 bel:Below B w W
 bp:Blk W P ty #[.int .i64 L,v]
 own:W.ownsRow B 34 2 v xs.length (xs.flatMap encR)
 ge:B<=P
section
variable{w W W':World}{B P:Nat}{ty:TypeId}{L:Int}{v:Value}{xs:List Rg}
theorem BX.later(h:BX w W B P ty L v xs)(hb:Below W.heap.size W W'):BX w W' B P ty L v xs:=
 ⟨h.bel.trans ⟨hb.os,hb.tape,hb.output,hb.size,λk hk=>hb.block k (by have:=h.bp.lt;have:=h.ge;omega)⟩,h.bp.later hb,owL h.own hb,h.ge⟩
theorem BX.grown(h:BX w W B P ty L v xs)(ht:ty≠34){v':Value}{x:Rg}(hg:W.grownBy W' v.ownBlock)(ho:W'.ownsRow B 34 2 v' (xs.length+1) (xs.flatMap encR++encR x)):BX w (W'.setCell ⟨P,1,none⟩ v') B P ty L v' (xs++[x]):=by
 have hge:=h.ge
 have hb3:=h.bp.grown hg (h.bp.notRow h.own ht)
 refine⟨(h.bel.trans ⟨hg.os,hg.tape,hg.output,hg.size,λk hk=>hg.block k (by have:=h.bp.lt;omega) (λe=>by have:=own_base h.own _ e.symm;omega)⟩).setCell (by show B<=P;omega) _,?_,?_,hge⟩
 ·have h1:=hb3.set 1 v'
  simpa using h1
 ·have h5:W'.ownsRow B 34 2 v' (xs++[x]).length ((xs++[x]).flatMap encR):=by simpa[List.flatMap_append]using ho
  exact own_other h5 _ (hb3.notRow h5 ht) _
theorem BX.own_alloc(h:BX w W B P ty L v xs)(o:Obj):(W.alloc o).ownsRow B 34 2 v xs.length (xs.flatMap encR):=owL h.own (balloc (brefl W) o)
theorem BX.sl(h:BX w W B P ty L v xs):∃A c,v=.slice A xs.length c/\Sl 2 encR W W.heap.size A xs.length c xs:=own_slG (k:=2) (enc:=encR) (λ_=>rfl) h.own rfl
end
def partP(rs:List Rg)(l:List Nat):List Rg:=l.map λi=>rs.getD i ⟨0,0⟩
theorem part_ok{rs:List Rg}(hr:RsOk rs){l:List Nat}(hl:∀x∈l,x<rs.length)(hn:l.length<=10):RsOk (partP rs l):=by
 refine⟨by simpa[partP]using hn,λx hx=>?_⟩
 obtain⟨i,hi,rfl⟩:=List.mem_map.1 hx
 have h1:=hl i hi
 refine hr.2 _ ?_
 simp[List.getD,h1]
def fitsB(rs:List Rg)(L:Nat)(ld:Int)(l:List Nat):Bool:=decide (LA (partP rs l) L 101<=ld)
set_option maxRecDepth 100000 in
set_option maxHeartbeats 8000000 in
theorem keep1_any(Y Z:Nat)(L:Nat)(A:Option Addr)(c:Nat)(rs:List Rg)(ld:Int)(base:Nat)(l:List Nat)(v:Value)(w:World)(hY:Blk w Y 30 #[.int .i64 (L:Int),.slice A rs.length c])(hZ:Blk w Z 2 #[.int .i64 ld])(hs:Sl 2 encR w w.heap.size A rs.length c rs)(hr:RsOk rs)(hL:1<=L/\L<=10)(hl:ListV w base l v)(hlx:∀x∈l,x<rs.length)(hln:l.length<=rs.length):
 Calls Tryz.prog 261 #[v,.pointer (some ⟨Y,0,none⟩),.pointer (some ⟨Z,0,none⟩)] w λe w'=>e=.returned (.bool (fitsB rs L ld l))/\Below w.heap.size w w':=by
 have hn10:=hr.1
 obtain⟨Al,cl,hv⟩:∃Al cl,v=.slice Al l.length cl:=by
  rcases hl.2 with⟨rfl,h0⟩|⟨g,cap,_,rfl,_⟩
  ·exact⟨none,0,by rw[h0]⟩
  ·exact⟨_,cap,rfl⟩
 have Hlf:=Lib.hid (LeftV.own hl)
 subst hv
 have y0:=hY.cell 0
 have y2:=hY.lt
 have HB0:=Lib.hid (show BX w (w.alloc (.cells #[.int .i64 (L:Int),.slice none 0 0] 99)) w.heap.size w.heap.size 99 (L:Int) (.slice none 0 0) []from⟨balloc (brefl w) _,Blk.new w _ _,World.ownsRow_nil _ _ _ _,Nat.le_refl _⟩)
 have HY:=Lib.hid hY
 have HZ:=Lib.hid hZ
 have Hs:=Lib.hid hs
 have Hr:=Lib.hid hr
 have Hlx:=Lib.hid hlx
 clear hY hZ hs hr hl hlx
 obtain⟨n,hn⟩:∃n,l.length=n:=⟨_,rfl⟩
 have Hn:=Lib.hid hn
 obtain⟨nr,hnr⟩:∃nr,rs.length=nr:=⟨_,rfl⟩
 have Hnr:=Lib.hid hnr
 rw[hn]at hln ⊢
 rw[hnr]at hln hn10 HY Hs
 clear hn hnr
 go_enter Tryz.func261,Tryz.ntmps261
 go_wp2_with fail
 clear y0 y2
 refine lpn (λm a W=>a.defers=[]/\∃(i:Nat)(pv:Value),i+m=n/\BX w W w.heap.size w.heap.size 99 (L:Int) pv (partP rs (l.take i))/\Fits (none::some (.pointer (some ⟨Y,0,none⟩))::some (.pointer (some ⟨Z,0,none⟩))::none::none::some (.pointer (some ⟨w.heap.size,0,none⟩))::none::none::none::none::none::none::none::none::some (.slice Al n cl)::some (.int .i64 (n:Nat))::some (.int .i64 (i:Nat))::none::none::none::none::none::none::none::none::none::none::none::none::none::none::none::none::none::none::none::none::none::none::none::none::[]) a.tmps.toList) n ?_ ?_
 ·refine⟨rfl,0,_,by omega,HB0.out,?_⟩
  repeat (first|exact ftL|refine ftN ?_|refine ftS ?_)
 clear HB0
 intro m a W hI K hK
 obtain⟨hds,i,pv,him,hB,hfit⟩:=hI
 obtain⟨f,hf⟩:=ftA hfit
 rw[hds]at hf
 subst hf
 clear hfit hds
 simp only[fillP,Nat.reduceAdd]
 have hY1:=HY.out.below hB.bel HY.out.lt
 have hZ1:=HZ.out.below hB.bel HZ.out.lt
 have y0:=hY1.cell 0
 have y1:=hY1.cell 1
 have y2:=hY1.lt
 have z0:=hZ1.cell 0
 have z1:=hZ1.lt
 have b0:=hB.bp.cell 0
 have b1:=hB.bp.cell 1
 have b2:=hB.bp.lt
 have b3:=hB.bp.frozen 1
 have HB:=Lib.hid hB
 by_cases hlt:i<n
 ·obtain⟨g,cg,x,hA,_,hgl,hx,hcx⟩:=Hlf.out.at_ (i:=i) (by rw[Hn.out];exact hlt)
  simp only[Value.slice.injEq]at hA
  obtain⟨rfl,_,rfl⟩:=hA
  have hcx':=(hB.bel.cell (p:=⟨g,i,none⟩) hgl).trans hcx
  have hgl2:g<W.heap.size:=Nat.lt_of_lt_of_le hgl hB.bel.size
  have hxn:=Hlx.out x (List.mem_of_getElem? hx)
  rw[Hnr.out]at hxn
  obtain⟨rb,ro,r,rfl,hrb,hrx,g0,g1⟩:=(Hs.out.below hB.bel).ltR hxn
  have hrb2:rb<W.heap.size:=Nat.lt_of_lt_of_le hrb hB.bel.size
  have hgd:rs.getD x ⟨0,0⟩=r:=by simp[List.getD,hrx]
  have hadd:partP rs (l.take (i+1))=partP rs (l.take i)++[r]:=by
   obtain⟨h1,h2⟩:=List.getElem?_eq_some_iff.1 hx
   unfold partP
   rw[List.take_succ_eq_append_getElem h1,h2,List.map_append,List.map_cons,List.map_nil,hgd]
  obtain⟨xs,hxs⟩:∃xs,partP rs (l.take i)=xs:=⟨_,rfl⟩
  have hxl:xs.length<=10:=by rw[<-hxs];simp[partP];omega
  rw[hxs]at hB HB hadd
  have Hadd:=Lib.hid hadd
  have i1:(i:Int)<(n:Int):=by omega
  have i2:(0:Int)<=(i:Int):=by omega
  have i3:IntKind.i64.wrap ((i:Int)+1)=(i:Int)+1:=by rw[IntKind.wrap_i64];omega
  have i4:(x:Int)<(nr:Int):=by omega
  have i5:(0:Int)<=(x:Int):=by omega
  obtain⟨i0,hi0,hz0,hz1,hz2⟩:=info_parts info_rg
  have hvv:pv.ownBlock≠some w.heap.size:=hB.bp.notRow hB.own (by decide)
  clear hB hx hcx hrx hgd hadd hxs hgl hY1 hZ1
  have hfb:W.frozen? ⟨w.heap.size,1,none⟩=false:=b3
  have HBr:=Lib.hid (HB.out.later (bdrew (balloc (brefl W) (.cells #[.int .i64 r.lo,.int .i64 r.hi] 34)) 1))
  have HBW:=Lib.hid (show w.heap.size<=(W.alloc (.cells #[.int .i64 r.lo,.int .i64 r.hi] 34)).heap.size by simp;omega)
  go_wp2_with fail
  go_region_law
   ((refine step_append_lies _ (by rfl) _ _ _ (by rfl) w.heap.size 34 i0 _ 2 16 und_rgs hi0 hz0 hz1 hz2 rfl (by omega) pv xs.length _ (by rfl) ((HB.out.own_alloc _).drew)
      ⟨W.heap.size,0,none⟩ 1 1 [.int .i64 r.lo,.int .i64 r.hi] (by rfl) (by rfl) (World.news_of_block (cs:=#[.int .i64 r.lo,.int .i64 r.hi]) (t:=34) (fr:=(0,0)) (heap_alloc_new W _)) (by simp[Value.oneCell'])
      (by omega) (by simp only[maxLen];omega) (by omega) HBW.out (W.heap.size+1) (by simp) ?_;intro gg cap w3 hown1 hgrow hat hlt';have hb3:=HBr.out.bp.grown hgrow hvv;have hc3:=hb3.cell 1;have hf3:=hb3.frozen 1;have hz3:=hb3.lt;clear hb3))
  all_goals
   have hP3:=HBr.out.grown (by decide) hgrow hown1
   rw[<-Hadd.out]at hP3
   have HP3:=Lib.hid hP3
   clear hown1 hgrow hat hP3 hlt' hc3 hf3 hz3
   go_wp2
   refine hK _ _ (m-1) (by omega) ⟨rfl,i+1,_,by omega,HP3.out,?_⟩
   repeat (first|exact ftL|refine ftN ?_|refine ftS ?_)
 ·obtain rfl:i=n:=by omega
  have hE:l.take i=l:=by rw[<-Hn.out];exact List.take_length
  rw[hE]at hB HB
  obtain⟨pA,pc,hpv,hsl⟩:=hB.sl
  subst hpv
  have hpl:(partP rs l).length=i:=by unfold partP;rw[List.length_map];exact Hn.out
  have hfill:=fill_any w.heap.size L pA pc (partP rs l) W hB.bp hsl (part_ok Hr.out Hlx.out (by rw[Hn.out];omega)) hL
  have Hfl:=Lib.hid hfill
  have Hpr:=Lib.hid (part_ok Hr.out Hlx.out (by rw[Hn.out];omega))
  have HZ1:=Lib.hid hZ1
  clear hK hB hsl hfill hpl hE hY1 hZ1
  go_wp2_with fail
  refine Hfl.out.mono ?_
  rintro e w1⟨tv,lp,ts,H,rfl,hb1,hok,hown,_⟩
  have hlate:=(fill_late hok Hpr.out hL.1).2
  obtain⟨At,ct,rfl,_⟩:=own_slI hown rfl
  have Hlate:=Lib.hid hlate
  have HBf:=Lib.hid (Below.later HB.out.bel hb1)
  have hz:=HZ1.out.later hb1
  have z2:=hz.cell 0
  have z3:=hz.lt
  obtain⟨q,hq⟩:∃q,decide ((ts.length:Int)<=ld)=q:=⟨_,rfl⟩
  have HE:=Lib.hid (show fitsB rs L ld l=q by unfold fitsB;rw[<-hlate];exact hq)
  clear hlate hb1 hz hown hok y0 y1 y2 z0 z1 b0 b1 b2 b3
  go_wp2
  go_ret
  exact⟨rtB (by rw[HE.out]),HBf.out⟩
end Go.Proofs.YtifehdoghfnhoaaGreatDoor
namespace Go.Proofs.YtifehdoghfnhoaaGreatDoor
open Go.RowKit Go.Shelf
theorem bad_win{x:Rg}(h:badR x=false):0<=x.lo/\x.lo<=x.hi/\x.hi<=100:=by
 unfold badR at h
 have h1:winB x=true:=by simpa using h
 rw[win_alt]at h1
 simp only[Bool.and_eq_true,decide_eq_true_eq]at h1
 omega
theorem yard_ok{L:Int}{rs:List Rg}(h:yardE L rs=0):(1<=L/\L<=10)/\RsOk rs:=by
 unfold yardE at h
 split at h
 ·rename_i h1
  have hL:=(inR_iff 1 10 L).1 h1
  split at h
  ·cases h
  ·rename_i h2
   split at h
   ·cases h
   ·rename_i h3
    refine⟨hL,by omega,λx hx=>bad_win ?_⟩
    cases hb:badR x with
    |false=>rfl
    |true=>exact absurd (List.any_eq_true.2 ⟨x,hx,hb⟩) h3
 ·cases h
theorem yard_nat{L:Int}{rs:List Rg}(h:yardE L rs=0):∃n:Nat,L=n/\(1<=n/\n<=10)/\RsOk rs:=by
 obtain⟨h1,h2⟩:=yard_ok h
 exact⟨L.toNat,by omega,by omega,h2⟩
set_option maxRecDepth 100000 in
set_option maxHeartbeats 2000000 in
theorem late_bad(L:Int)(A:Option Addr)(n c:Nat)(rs:List Rg)(w:World)(hs:Sl 2 encR w w.heap.size A n c rs)(hne:yardE L rs≠0):
 Calls Tryz.prog 25 #[.agg #[.int .i64 L,.slice A n c]] w λe w'=>e=.returned (.tuple #[.slice none 0 0,.int .i64 (yardE L rs)])/\Below w.heap.size w w':=by
 obtain rfl:=hs.len
 have HY:=Lib.hid (show YB w (w.alloc (.cells #[.int .i64 L,.slice A rs.length c] 30)) L A rs.length c from⟨balloc (brefl w) _,Blk.new w _ _⟩)
 have hc:=Lib.hid (λW hb=>open_bad L A rs.length c rs W (hs.later (w':=W) hb) hne)
 obtain⟨q,hq⟩:∃q,yardE L rs=q:=⟨_,rfl⟩
 rw[hq]at hc hne ⊢
 have d1:(q != 0)=true:=by simpa using hne
 have d2:(q==0)=false:=by simpa using hne
 clear hs hq hne
 go_enter Tryz.func25,Tryz.ntmps25
 go_wp2_with fail
 refine(hc.out _ HY.out.bel).mono ?_
 rintro e w1⟨rfl,hb1⟩
 have HB:=Lib.hid (Below.later (HY.out.bel) hb1)
 clear hb1
 go_wp2
 go_ret2
 exact⟨rfl,HB.out⟩
set_option maxRecDepth 100000 in
set_option maxHeartbeats 2000000 in
theorem checkHours_bad(L:Int)(A:Option Addr)(n c:Nat)(rs:List Rg)(v:Value)(w:World)(hs:Sl 2 encR w w.heap.size A n c rs)(hne:yardE L rs≠0):
 Calls Tryz.prog 160 #[.agg #[.int .i64 L,.slice A n c],v] w λe w'=>e=.returned (.tuple #[.int .i64 0,.int .i64 (yardE L rs)])/\Below w.heap.size w w':=by
 obtain rfl:=hs.len
 have HY:=Lib.hid (show YB w (w.alloc (.cells #[.int .i64 L,.slice A rs.length c] 30)) L A rs.length c from⟨balloc (brefl w) _,Blk.new w _ _⟩)
 have hc:=Lib.hid (λW hb=>open_bad L A rs.length c rs W (hs.later (w':=W) hb) hne)
 obtain⟨q,hq⟩:∃q,yardE L rs=q:=⟨_,rfl⟩
 rw[hq]at hc hne ⊢
 have d1:(q != 0)=true:=by simpa using hne
 have d2:(q==0)=false:=by simpa using hne
 clear hs hq hne
 go_enter Tryz.func160,Tryz.ntmps160
 go_wp2_with fail
 refine(hc.out _ HY.out.bel).mono ?_
 rintro e w1⟨rfl,hb1⟩
 have HB:=Lib.hid (Below.later (HY.out.bel) hb1)
 clear hb1
 go_wp2
 go_ret2
 exact⟨rfl,HB.out⟩
set_option maxRecDepth 100000 in
set_option maxHeartbeats 2000000 in
theorem need__bad(L:Int)(A:Option Addr)(n c:Nat)(rs:List Rg)(wd:Rg)(w:World)(hs:Sl 2 encR w w.heap.size A n c rs)(hne:yardE L rs≠0):
 Calls Tryz.prog 162 #[.agg #[.int .i64 L,.slice A n c],.agg #[.int .i64 wd.lo,.int .i64 wd.hi]] w λe w'=>e=.returned (.tuple #[.int .i64 0,.int .i64 (yardE L rs)])/\Below w.heap.size w w':=by
 obtain rfl:=hs.len
 have HY:=Lib.hid (show YB w (w.alloc (.cells #[.int .i64 L,.slice A rs.length c] 30)) L A rs.length c from⟨balloc (brefl w) _,Blk.new w _ _⟩)
 have hc:=Lib.hid (λW hb=>open_bad L A rs.length c rs W (hs.later (w':=W) hb) hne)
 obtain⟨q,hq⟩:∃q,yardE L rs=q:=⟨_,rfl⟩
 rw[hq]at hc hne ⊢
 have d1:(q != 0)=true:=by simpa using hne
 have d2:(q==0)=false:=by simpa using hne
 clear hs hq hne
 go_enter Tryz.func162,Tryz.ntmps162
 go_wp2_with fail
 refine(hc.out _ (balloc (HY.out.bel) (.cells #[.int .i64 wd.lo,.int .i64 wd.hi] 34))).mono ?_
 rintro e w1⟨rfl,hb1⟩
 have HB:=Lib.hid (Below.later ((balloc (HY.out.bel) (.cells #[.int .i64 wd.lo,.int .i64 wd.hi] 34))) hb1)
 clear hb1
 go_wp2
 go_ret2
 exact⟨rfl,HB.out⟩
set_option maxRecDepth 100000 in
set_option maxHeartbeats 2000000 in
theorem checkProof_bad(L:Int)(A:Option Addr)(n c:Nat)(rs:List Rg)(v:Value)(w:World)(hs:Sl 2 encR w w.heap.size A n c rs)(hne:yardE L rs≠0):
 Calls Tryz.prog 164 #[.agg #[.int .i64 L,.slice A n c],v] w λe w'=>e=.returned (.tuple #[.int .i64 0,.int .i64 (yardE L rs)])/\Below w.heap.size w w':=by
 obtain rfl:=hs.len
 have HY:=Lib.hid (show YB w (w.alloc (.cells #[.int .i64 L,.slice A rs.length c] 30)) L A rs.length c from⟨balloc (brefl w) _,Blk.new w _ _⟩)
 have hc:=Lib.hid (λW hb=>open_bad L A rs.length c rs W (hs.later (w':=W) hb) hne)
 obtain⟨q,hq⟩:∃q,yardE L rs=q:=⟨_,rfl⟩
 rw[hq]at hc hne ⊢
 have d1:(q != 0)=true:=by simpa using hne
 have d2:(q==0)=false:=by simpa using hne
 clear hs hq hne
 go_enter Tryz.func164,Tryz.ntmps164
 go_wp2_with fail
 refine(hc.out _ HY.out.bel).mono ?_
 rintro e w1⟨rfl,hb1⟩
 have HB:=Lib.hid (Below.later (HY.out.bel) hb1)
 clear hb1
 go_wp2
 go_ret2
 exact⟨rfl,HB.out⟩
set_option maxRecDepth 100000 in
set_option maxHeartbeats 2000000 in
theorem keep_bad(L:Int)(A:Option Addr)(n c:Nat)(rs:List Rg)(ld:Int)(w:World)(hs:Sl 2 encR w w.heap.size A n c rs)(hne:yardE L rs≠0):
 Calls Tryz.prog 168 #[.agg #[.int .i64 L,.slice A n c],.int .i64 ld] w λe w'=>e=.returned (.tuple #[.slice none 0 0,.int .i64 (yardE L rs)])/\Below w.heap.size w w':=by
 obtain rfl:=hs.len
 have HY:=Lib.hid (show YB w (w.alloc (.cells #[.int .i64 L,.slice A rs.length c] 30)) L A rs.length c from⟨balloc (brefl w) _,Blk.new w _ _⟩)
 have hc:=Lib.hid (λW hb=>open_bad L A rs.length c rs W (hs.later (w':=W) hb) hne)
 obtain⟨q,hq⟩:∃q,yardE L rs=q:=⟨_,rfl⟩
 rw[hq]at hc hne ⊢
 have d1:(q != 0)=true:=by simpa using hne
 have d2:(q==0)=false:=by simpa using hne
 clear hs hq hne
 go_enter Tryz.func168,Tryz.ntmps168
 go_wp2_with fail
 refine(hc.out _ (balloc (HY.out.bel) (.cells #[.int .i64 ld] 2))).mono ?_
 rintro e w1⟨rfl,hb1⟩
 have HB:=Lib.hid (Below.later ((balloc (HY.out.bel) (.cells #[.int .i64 ld] 2))) hb1)
 clear hb1
 go_wp2
 go_ret2
 exact⟨rfl,HB.out⟩
set_option maxRecDepth 100000 in
set_option maxHeartbeats 2000000 in
theorem late_ok(L:Nat)(A:Option Addr)(c:Nat)(rs:List Rg)(w:World)(hs:Sl 2 encR w w.heap.size A rs.length c rs)(he:yardE (L:Int) rs=0):
 Calls Tryz.prog 25 #[.agg #[.int .i64 (L:Int),.slice A rs.length c]] w λe w'=>∃v,e=.returned (.tuple #[v,.int .i64 0])/\Below w.heap.size w w'/\w'.ownsRow w.heap.size 2 1 v (Fill.lateP (LA rs L) 101).length ((Fill.lateP (LA rs L) 101).map (.int .i64))/\((Fill.lateP (LA rs L) 101).length:Int)=LA rs L 101:=by
 obtain⟨hL,hr⟩:=yard_ok he
 have HY:=Lib.hid (show YB w (w.alloc (.cells #[.int .i64 (L:Int),.slice A rs.length c] 30)) (L:Int) A rs.length c from⟨balloc (brefl w) _,Blk.new w _ _⟩)
 have hc:=Lib.hid (open_ok (L:Int) A rs.length c rs _ (hs.later HY.out.bel) he)
 have Hs:=Lib.hid hs
 have Hr:=Lib.hid hr
 clear hs he hr
 go_enter Tryz.func25,Tryz.ntmps25
 go_wp2_with fail
 refine hc.out.mono ?_
 rintro e w1⟨g,rfl,hb1,hg,hv⟩
 have hB1:=Below.later HY.out.bel hb1
 have hf:=fill_any g L A c rs w1 hv (Hs.out.later hB1) Hr.out (by omega)
 have HB1:=Lib.hid hB1
 have Hf:=Lib.hid hf
 clear hb1 hv hB1 hf
 go_wp2_with fail
 refine Hf.out.mono ?_
 rintro e w2⟨v,l,ts,H,rfl,hb2,hok,hown,_⟩
 obtain⟨hts,htl⟩:=fill_late hok Hr.out (by omega)
 have HB2:=Lib.hid (Below.later HB1.out hb2)
 have Hown:=Lib.hid (own_low hown HB1.out.size)
 have Hts:=Lib.hid hts
 have Htl:=Lib.hid htl
 clear hb2 hok hown hts htl
 go_wp2
 go_ret2
 exact⟨v,rfl,HB2.out,by rw[<-Hts.out];exact Hown.out,by rw[<-Hts.out];exact Htl.out⟩
set_option maxRecDepth 100000 in
set_option maxHeartbeats 2000000 in
theorem hours_ok(L:Nat)(A:Option Addr)(c:Nat)(rs:List Rg)(w:World)(hs:Sl 2 encR w w.heap.size A rs.length c rs)(he:yardE (L:Int) rs=0):
 Calls Tryz.prog 9 #[.agg #[.int .i64 (L:Int),.slice A rs.length c]] w λe w'=>∃g l ts H,e=.returned (.tuple #[.slice (some ⟨g,0,none⟩) rs.length rs.length,.int .i64 0])/\Below w.heap.size w w'/\FillOk rs L l ts H/\Sl 1 encI w' w'.heap.size (some ⟨g,0,none⟩) rs.length rs.length ((List.range rs.length).map H):=by
 obtain⟨hL,hr⟩:=yard_ok he
 have HY:=Lib.hid (show YB w (w.alloc (.cells #[.int .i64 (L:Int),.slice A rs.length c] 30)) (L:Int) A rs.length c from⟨balloc (brefl w) _,Blk.new w _ _⟩)
 have hc:=Lib.hid (open_ok (L:Int) A rs.length c rs _ (hs.later HY.out.bel) he)
 have Hs:=Lib.hid hs
 have Hr:=Lib.hid hr
 clear hs he hr
 go_enter Tryz.func9,Tryz.ntmps9
 go_wp2_with fail
 refine hc.out.mono ?_
 rintro e w1⟨g,rfl,hb1,hg,hv⟩
 have hB1:=Below.later HY.out.bel hb1
 have hf:=fill_any g L A c rs w1 hv (Hs.out.later hB1) Hr.out (by omega)
 have HB1:=Lib.hid hB1
 have Hf:=Lib.hid hf
 clear hb1 hv hB1 hf
 go_wp2_with fail
 refine Hf.out.mono ?_
 rintro e w2⟨v,l,ts,H,rfl,hb2,hok,_,hblk⟩
 have HB2:=Lib.hid (Below.later HB1.out hb2)
 have Hok:=Lib.hid hok
 have Hsl:=Lib.hid (show Sl 1 encI w2 w2.heap.size (some ⟨w1.heap.size+1,0,none⟩) rs.length rs.length ((List.range rs.length).map H)from
  ⟨by simp,Nat.le_refl _,by have:=Hr.out.1;omega,λ_=>⟨w1.heap.size+1,0,rfl,hblk.lt,λi x hx j u hu=>by
    have hi:=(List.getElem?_eq_some_iff.1 hx).1
    have hj:=(List.getElem?_eq_some_iff.1 hu).1
    simp[encI]at hj
    subst hj
    have hi':i<rs.length:=by simpa using hi
    rw[show 0+i*1+0=i by omega,hblk.cell,numArr_get hi']
    rw[List.getElem?_map,List.getElem?_range hi']at hx
    simp at hx
    subst hx
    simpa[encI]using hu⟩⟩)
 clear hb2 hok hblk
 go_wp2
 go_ret2
 exact⟨_,l,ts,H,rfl,HB2.out,Hok.out,Hsl.out⟩
end Go.Proofs.YtifehdoghfnhoaaGreatDoor
namespace Go.Proofs.YtifehdoghfnhoaaGreatDoor
open Go.RowKit Go.Shelf
def lateV(L:Int)(rs:List Rg):List Int:=if yardE L rs=0 then Fill.lateP (LA rs L.toNat) 101 else []
def fewV(L:Int)(rs:List Rg):Int:=if yardE L rs=0 then LA rs L.toNat 101 else 0
theorem late_any(L:Int)(A:Option Addr)(n c:Nat)(rs:List Rg)(w:World)(hs:Sl 2 encR w w.heap.size A n c rs):
 Calls Tryz.prog 25 #[.agg #[.int .i64 L,.slice A n c]] w λe w'=>∃v,e=.returned (.tuple #[v,.int .i64 (yardE L rs)])/\Below w.heap.size w w'/\w'.ownsRow w.heap.size 2 1 v (lateV L rs).length ((lateV L rs).map (.int .i64))/\((lateV L rs).length:Int)=fewV L rs:=by
 obtain rfl:=hs.len
 by_cases he:yardE L rs=0
 ·obtain⟨m,rfl,hL,hr⟩:=yard_nat he
  unfold lateV fewV
  rw[if_pos he,if_pos he,he]
  exact late_ok m A c rs w hs he
 ·unfold lateV fewV
  rw[if_neg he,if_neg he]
  refine(late_bad L A _ c rs w hs he).mono ?_
  rintro e w'⟨rfl,hb⟩
  exact⟨_,rfl,hb,World.ownsRow_nil _ _ _ _,rfl⟩
set_option maxRecDepth 100000 in
set_option maxHeartbeats 1000000 in
theorem fewest_any(L:Int)(A:Option Addr)(n c:Nat)(rs:List Rg)(w:World)(hs:Sl 2 encR w w.heap.size A n c rs):
 Calls Tryz.prog 8 #[.agg #[.int .i64 L,.slice A n c]] w λe w'=>e=.returned (.tuple #[.int .i64 (fewV L rs),.int .i64 (yardE L rs)])/\Below w.heap.size w w':=by
 obtain rfl:=hs.len
 have HY:=Lib.hid (show YB w (w.alloc (.cells #[.int .i64 L,.slice A rs.length c] 30)) L A rs.length c from⟨balloc (brefl w) _,Blk.new w _ _⟩)
 have hc:=Lib.hid (late_any L A rs.length c rs _ (hs.later HY.out.bel))
 clear hs
 go_enter Tryz.func8,Tryz.ntmps8
 go_wp2_with fail
 refine hc.out.mono ?_
 rintro e w1⟨v,rfl,hb1,hown,hlen⟩
 obtain⟨At,ct,rfl,_⟩:=own_slI hown rfl
 have HB:=Lib.hid (Below.later HY.out.bel hb1)
 have HE:=Lib.hid hlen
 clear hb1 hown hlen
 go_wp2
 go_ret2
 exact⟨by rw[HE.out];rfl,HB.out⟩
def needE(L:Int)(rs:List Rg)(wd:Rg):Int:=if yardE L rs=0 then(if winB wd then 0 else 3)else yardE L rs
def needV(L:Int)(rs:List Rg)(wd:Rg):Int:=if yardE L rs=0 then(if winB wd then needP L rs wd else 0)else 0
set_option maxRecDepth 100000 in
set_option maxHeartbeats 2000000 in
theorem needC_any(L:Int)(A:Option Addr)(n c:Nat)(rs:List Rg)(wd:Rg)(w:World)(hs:Sl 2 encR w w.heap.size A n c rs):
 Calls Tryz.prog 162 #[.agg #[.int .i64 L,.slice A n c],.agg #[.int .i64 wd.lo,.int .i64 wd.hi]] w λe w'=>e=.returned (.tuple #[.int .i64 (needV L rs wd),.int .i64 (needE L rs wd)])/\Below w.heap.size w w':=by
 obtain rfl:=hs.len
 by_cases he:yardE L rs=0
 ·obtain⟨hL,hr⟩:=yard_ok he
  unfold needV needE
  rw[if_pos he,if_pos he]
  obtain⟨q,hq⟩:∃q,winB wd=q:=⟨_,rfl⟩
  rw[hq]
  have Hq:=Lib.hid hq
  clear hq
  have hb0:Below w.heap.size w ((w.alloc (.cells #[.int .i64 L,.slice A rs.length c] 30)).alloc (.cells #[.int .i64 wd.lo,.int .i64 wd.hi] 34)):=balloc (balloc (brefl w) _) _
  have hwB:=Blk.new (w.alloc (.cells #[.int .i64 L,.slice A rs.length c] 30)) 34 #[.int .i64 wd.lo,.int .i64 wd.hi]
  rw[World.size_alloc]at hwB
  have hc:=Lib.hid (open_ok L A rs.length c rs _ (hs.later hb0) he)
  have Hs:=Lib.hid hs
  have Hr:=Lib.hid hr
  have HB0:=Lib.hid hb0
  have HW:=Lib.hid hwB
  clear hs he hr hb0 hwB
  go_enter Tryz.func162,Tryz.ntmps162
  go_wp2_with fail
  refine hc.out.mono ?_
  rintro e w1⟨g,rfl,hb1,hg,hv⟩
  have hB1:=Below.later HB0.out hb1
  have hW1:=HW.out.later hb1
  have c0:=hW1.cell 0
  have c1:=hW1.cell 1
  have c2:=hW1.lt
  have HB1:=Lib.hid hB1
  have HW1:=Lib.hid hW1
  have Hv:=Lib.hid hv
  clear hb1 hB1 hW1 hv
  go_wp2_with fail
  refine(window_any wd _).mono ?_
  rintro e w2⟨rfl,hb2⟩
  rw[Hq.out]
  have hB2:=Below.later HB1.out hb2
  have hW2:=HW1.out.later hb2
  have d0:=hW2.cell 0
  have d1:=hW2.cell 1
  have d2:=hW2.lt
  have hnd:=need_any g L A rs.length c rs wd w2 (Hv.out.later hb2) (Hs.out.later hB2) (by have:=Hr.out.1;omega) hL (λx hx=>(Hr.out.2 x hx).2.1)
  have HB2:=Lib.hid hB2
  have Hnd:=Lib.hid hnd
  clear hb2 hB2 hW2 hnd c0 c1 c2
  cases q with
  |false=>
   go_wp2
   all_goals
    go_ret2
    exact⟨rfl,HB2.out⟩
  |true=>
   go_wp2_with fail
   refine Hnd.out.mono ?_
   rintro e w3⟨rfl,hb3⟩
   have HB3:=Lib.hid (Below.later HB2.out hb3)
   clear hb3
   go_wp2
   go_ret2
   exact⟨rfl,HB3.out⟩
 ·unfold needV needE
  rw[if_neg he,if_neg he]
  exact need__bad L A _ c rs wd w hs he
def IsInts(n:Nat)(xs:List Int)(v:Value)(W:World):Prop:=∃G c,v=.slice G n c/\Sl 1 encI W W.heap.size G n c xs
theorem IsInts.stab{n:Nat}{xs:List Int}:∀v W W',Gr W W'->IsInts n xs v W->IsInts n xs v W':=λ_ _ _ hG⟨G,c,h1,h2⟩=>⟨G,c,h1,h2.later hG⟩
def wrongB(p:Int×Rg):Bool:=!(inR p.2.lo p.2.hi p.1)
def hoursE(L:Int)(rs:List Rg)(hs:List Int):Int:=if yardE L rs=0 then(if hs.length=rs.length then(if(hs.zip rs).any wrongB then 19 else 0)else 15)else yardE L rs
def hoursV(L:Int)(rs:List Rg)(hs:List Int):Int:=if hoursE L rs hs=0 then loadsP L hs else 0
set_option maxRecDepth 100000 in
set_option maxHeartbeats 4000000 in
theorem checkHours_any(L:Int)(A:Option Addr)(n c:Nat)(rs:List Rg)(B:Option Addr)(m k:Nat)(hh:List Int)(w:World)(hs:Sl 2 encR w w.heap.size A n c rs)(ht:Sl 1 encI w w.heap.size B m k hh):
 Calls Tryz.prog 160 #[.agg #[.int .i64 L,.slice A n c],.slice B m k] w λe w'=>e=.returned (.tuple #[.int .i64 (hoursV L rs hh),.int .i64 (hoursE L rs hh)])/\Below w.heap.size w w':=by
 obtain rfl:=hs.len
 obtain rfl:=ht.len
 by_cases he:yardE L rs=0
 ·obtain⟨hL,hr⟩:=yard_ok he
  have HE0:=Lib.hid (show hoursE L rs hh=if hh.length=rs.length then(if(hh.zip rs).any wrongB then 19 else 0)else 15 by unfold hoursE;rw[if_pos he])
  have HY:=Lib.hid (show YB w (w.alloc (.cells #[.int .i64 L,.slice A rs.length c] 30)) L A rs.length c from⟨balloc (brefl w) _,Blk.new w _ _⟩)
  have hc:=Lib.hid (open_ok L A rs.length c rs _ (hs.later HY.out.bel) he)
  have Hs:=Lib.hid hs
  have Ht:=Lib.hid ht
  have Hr:=Lib.hid hr
  clear hs ht he hr
  go_enter Tryz.func160,Tryz.ntmps160
  go_wp2_with fail
  refine hc.out.mono ?_
  rintro e w1⟨g,rfl,hb1,hg,hv⟩
  have hY1:=HY.out.later hb1
  have c0:=hY1.b0.cell 0
  have c1:=hY1.b0.cell 1
  have c2:=hY1.b0.lt
  have HY1:=Lib.hid hY1
  have Hv:=Lib.hid hv
  clear hb1 hY1 hv
  by_cases hlen:hh.length=rs.length
  ·have hl1:((hh.length:Int) != (rs.length:Int))=false:=by simp[hlen]
   have HE1:=Lib.hid (show hoursE L rs hh=if(hh.zip rs).any wrongB then 19 else 0 by rw[HE0.out,if_pos hlen])
   have hn10:hh.length<=10:=by rw[hlen];exact Hr.out.1
   have Hlen:=Lib.hid hlen
   clear hlen
   go_wp2_with fail
   clear c0 c1 c2 hl1
   refine lpn (λq b W=>b.defers=[]/\∃i:Nat,i+q=hh.length/\Hid (∀j p,j<i->(hh.zip rs)[j]? =some p->wrongB p=false)/\YB w W L A rs.length c/\Blk W g 99 #[.int .i64 L,.slice A rs.length c]/\Fits (none::some (.slice B hh.length k)::some (.pointer (some ⟨w.heap.size,0,none⟩))::none::none::none::some (.pointer (some ⟨g,0,none⟩))::none::none::none::none::none::none::none::none::none::none::none::none::none::none::none::none::none::none::none::some (.slice B hh.length k)::some (.int .i64 (hh.length:Nat))::some (.int .i64 (i:Nat))::none::none::none::none::none::none::none::none::none::none::none::none::none::none::none::none::none::none::none::none::none::none::none::none::[]) b.tmps.toList) hh.length ?_ ?_
   ·refine⟨rfl,0,by omega,Lib.hid (λj p hj=>by omega),HY1.out,Hv.out,?_⟩
    repeat (first|exact ftL|refine ftN ?_|refine ftS ?_)
   clear HY1 Hv
   intro q b W hI K hK
   obtain⟨hds,i,hiq,hno,hY,hv,hfit⟩:=hI
   obtain⟨f,hf⟩:=ftA hfit
   rw[hds]at hf
   subst hf
   clear hfit hds
   simp only[fillP,Nat.reduceAdd]
   have c0:=hY.b0.cell 0
   have c1:=hY.b0.cell 1
   have c2:=hY.b0.lt
   have HY:=Lib.hid hY
   have Hv:=Lib.hid hv
   by_cases hlt:i<hh.length
   ·obtain⟨tb,tof,t,rfl,htb,ht',t0⟩:=(Ht.out.later hY.bel).ltI hlt
    have hlr:i<rs.length:=by rw[<-Hlen.out];exact hlt
    obtain⟨rb,ro,x,rfl,hrb,hx,g0,g1⟩:=(Hs.out.later hY.bel).ltR hlr
    have hz:(hh.zip rs)[i]? =some (t,x):=by rw[List.getElem?_zip_eq_some];exact⟨ht',hx⟩
    have i1:(i:Int)<(hh.length:Int):=by omega
    have i2:(0:Int)<=(i:Int):=by omega
    have i3:IntKind.i64.wrap ((i:Int)+1)=(i:Int)+1:=by rw[IntKind.wrap_i64];omega
    have i4:(i:Int)<(rs.length:Int):=by omega
    have hN:wrongB (t,x)=false->∀j p,j<i+1->(hh.zip rs)[j]? =some p->wrongB p=false:=λh=>no_succ hno.out hz h
    have hX:wrongB (t,x)=true->hoursE L rs hh=19:=λh=>by rw[HE1.out,if_pos (List.any_eq_true.2 ⟨_,List.mem_of_getElem? hz,h⟩)]
    have HN:=Lib.hid hN
    have HX:=Lib.hid hX
    clear hY hv hno ht' hx hz hN hX
    go_wp2_with fail
    refine dag 16 (by kernel_rfl) (by kernel_rfl) (.is ?_::.is ?_::.is ?_::.is ?_::.is ?_::.is ?_::.is ?_::.is ?_::.is ?_::.is ?_::.is ?_::.is ?_::.is ?_::.like (IsInts 1 [t])::.is ?_::.is ?_::[]) rfl ?st1 ?ob1
    case st1=>repeat (first|exact stab_nil|refine stab_is ?_|refine stab_like IsInts.stab ?_)
    case ob1=>
     intro env W' hG
     obtain⟨hc,hf⟩:=bcell hG
     iterate 13 (refine obI ?_ ?_;unfold dsA;go_simp;(try go_bits);(first|(refine⟨brefl _,?_⟩;rfl)|rfl);intro K hK;go_simp;refine hK _ ?_;clear hK K)
     refine obls_like (λ_=>?_) ?_
     ·unfold dsA
      go_simp
      exact⟨balloc (brefl _) _,_,_,rfl,Sl.one (by simp) (by go_simp)⟩
     intro K' hK'
     go_simp
     refine hK' _ ?_
     clear hK' K'
     refine obls_isL (λhl=>?_) ?_
     ·obtain⟨G,cg,hE,hsl⟩:IsInts 1 [t] (env 13) W':=hl ⟨13,.data⟩ (by simp) rfl
      unfold dsA
      go_simp
      refine(within_any x.lo x.hi G 1 cg [t] W' hsl).mono ?_
      rintro e w3⟨rfl,hb3⟩
      rw[inR_any]
      refine⟨?_,hb3⟩
      rfl
     intro K' hK'
     go_simp
     refine hK' _ ?_
     clear hK' K'
     repeat (refine obI ?_ ?_;unfold dsA;go_simp;(try go_bits);(first|(refine⟨brefl _,?_⟩;rfl)|rfl);intro K hK;go_simp;refine hK _ ?_;clear hK K)
     refine obN (λ_=>?_)
     have HY2:=Lib.hid (HY.out.later hG)
     have Hv2:=Lib.hid (Hv.out.later hG)
     clear hc hf hG
     obtain⟨qb,hqb⟩:∃qb,inR x.lo x.hi t=qb:=⟨_,rfl⟩
     rw[hqb]
     have hwb:wrongB (t,x)=!qb:=by unfold wrongB;rw[hqb]
     rw[hwb]at HN HX
     clear hqb hwb
     cases qb with
     |true=>
      have HN2:=Lib.hid (HN.out rfl)
      clear HN HX
      go_wp2
      refine hK _ _ (q-1) (by omega) ⟨rfl,i+1,by omega,Lib.hid HN2.out,HY2.out,Hv2.out,?_⟩
      repeat (first|exact ftL|refine ftN ?_|refine ftS ?_)
     |false=>
      have HX2:=Lib.hid (HX.out rfl)
      clear HN HX hK
      go_wp2
      go_ret2
      exact⟨by rw[show hoursV L rs hh=0 by unfold hoursV;rw[HX2.out];rfl,HX2.out];rfl,HY2.out.bel⟩
   ·obtain rfl:i=hh.length:=by omega
    have HE2:=Lib.hid (show hoursE L rs hh=0 by
     rw[HE1.out,if_neg]
     intro ha
     obtain⟨p,hp,hb⟩:=List.any_eq_true.1 ha
     obtain⟨j,hj⟩:=List.getElem?_of_mem hp
     have hjl:=(List.getElem?_eq_some_iff.1 hj).1
     rw[hno.out j p (by simp at hjl;omega) hj]at hb
     cases hb)
    have hrh:∀h∈hh,0<=h/\h<=100:=λh hm=>by
     obtain⟨j,hj⟩:=List.getElem?_of_mem hm
     have hjl:=(List.getElem?_eq_some_iff.1 hj).1
     have hx:=List.getElem?_eq_getElem (show j<rs.length by rw[<-Hlen.out];exact hjl)
     have hz:(hh.zip rs)[j]? =some (h,rs[j]'(by rw[<-Hlen.out];exact hjl)):=by rw[List.getElem?_zip_eq_some];exact⟨hj,hx⟩
     have h1:=hno.out j _ hjl hz
     unfold wrongB at h1
     simp only[Bool.not_eq_false',inR_iff]at h1
     have h2:=Hr.out.2 _ (List.mem_of_getElem? hx)
     omega
    have hld:=loads_any g L A rs.length c B hh.length k hh W hv (Ht.out.later hY.bel) (by rw[Hlen.out];have:=Hr.out.1;omega) hL hrh
    have Hld:=Lib.hid hld
    clear hK hno hY hv hrh hld
    go_wp2_with fail
    refine Hld.out.mono ?_
    rintro e w2⟨rfl,hb2⟩
    have HY2:=Lib.hid (HY.out.later hb2)
    clear hb2
    go_wp2
    go_ret2
    exact⟨by rw[show hoursV L rs hh=loadsP L hh by unfold hoursV;rw[HE2.out,if_pos rfl],HE2.out];rfl,HY2.out.bel⟩
  ·have hl1:((hh.length:Int) != (rs.length:Int))=true:=by simp;omega
   have HE1:=Lib.hid (show hoursE L rs hh=15 by rw[HE0.out,if_neg hlen])
   clear hlen
   go_wp2
   go_ret2
   exact⟨by rw[show hoursV L rs hh=0 by unfold hoursV;rw[HE1.out];rfl,HE1.out];rfl,HY1.out.bel⟩
 ·have h1:hoursE L rs hh=yardE L rs:=by unfold hoursE;rw[if_neg he]
  unfold hoursV
  rw[h1,if_neg he]
  exact checkHours_bad L A _ c rs _ w hs he
end Go.Proofs.YtifehdoghfnhoaaGreatDoor
namespace Go.Proofs.YtifehdoghfnhoaaGreatDoor
open Go.RowKit Go.Shelf
def sepB:Int->List Rg->Bool
 |_,[]=>true
 |e,r::ws=>decide (e<r.lo)&&sepB r.hi ws
def proofE(L:Int)(rs ws:List Rg):Int:=if yardE L rs=0 then(if(10:Int)<ws.length then 6 else if ws.any badR then 3 else if sepB (-1) ws then 0 else 16)else yardE L rs
def proofV(L:Int)(rs ws:List Rg):Int:=if proofE L rs ws=0 then(ws.map (needP L rs)).sum else 0
set_option maxHeartbeats 1000000 in
theorem badR2_any(x:Rg)(w:World):
 Calls Tryz.prog 257 #[.agg #[.int .i64 x.lo,.int .i64 x.hi]] w λe w'=>e=.returned (.bool (badR x))/\Below w.heap.size w w':=by
 have HB:=Lib.hid (balloc (brefl w) (.cells #[.int .i64 x.lo,.int .i64 x.hi] 34))
 go_enter Tryz.func257,Tryz.ntmps257
 go_wp2_with fail
 refine(window_any x _).mono ?_
 rintro e w1⟨rfl,hb1⟩
 have HB1:=Lib.hid (Below.later HB.out hb1)
 clear hb1
 go_wp2
 go_ret
 exact⟨rfl,HB1.out⟩
set_option maxRecDepth 100000 in
set_option maxHeartbeats 4000000 in
theorem checkProof_any(L:Int)(A:Option Addr)(n c:Nat)(rs:List Rg)(B:Option Addr)(m k:Nat)(ws:List Rg)(w:World)(hs:Sl 2 encR w w.heap.size A n c rs)(ht:Sl 2 encR w w.heap.size B m k ws):
 Calls Tryz.prog 164 #[.agg #[.int .i64 L,.slice A n c],.slice B m k] w λe w'=>e=.returned (.tuple #[.int .i64 (proofV L rs ws),.int .i64 (proofE L rs ws)])/\Below w.heap.size w w':=by
 obtain rfl:=hs.len
 obtain rfl:=ht.len
 by_cases he:yardE L rs=0
 ·obtain⟨hL,hr⟩:=yard_ok he
  have HE0:=Lib.hid (show proofE L rs ws=if(10:Int)<ws.length then 6 else if ws.any badR then 3 else if sepB (-1) ws then 0 else 16 by unfold proofE;rw[if_pos he])
  have HY:=Lib.hid (show YB w (w.alloc (.cells #[.int .i64 L,.slice A rs.length c] 30)) L A rs.length c from⟨balloc (brefl w) _,Blk.new w _ _⟩)
  have hc:=Lib.hid (open_ok L A rs.length c rs _ (hs.later HY.out.bel) he)
  have Hs:=Lib.hid hs
  have Ht:=Lib.hid ht
  have Hr:=Lib.hid hr
  clear hs ht he hr
  go_enter Tryz.func164,Tryz.ntmps164
  go_wp2_with fail
  refine hc.out.mono ?_
  rintro e w1⟨g,rfl,hb1,hg,hv⟩
  have HY1:=Lib.hid (HY.out.later hb1)
  have Hv:=Lib.hid hv
  clear hb1 hv
  by_cases hlen:(10:Int)<(ws.length:Int)
  ·have d1:decide ((10:Int)<(ws.length:Int))=true:=by simpa using hlen
   have HE1:=Lib.hid (show proofE L rs ws=6 by rw[HE0.out,if_pos hlen])
   clear hlen
   go_wp2
   go_ret2
   exact⟨by rw[show proofV L rs ws=0 by unfold proofV;rw[HE1.out];rfl,HE1.out];rfl,HY1.out.bel⟩
  ·have d1:decide ((10:Int)<(ws.length:Int))=false:=by simpa using hlen
   have HE1:=Lib.hid (show proofE L rs ws=if ws.any badR then 3 else if sepB (-1) ws then 0 else 16 by rw[HE0.out,if_neg hlen])
   have hn10:ws.length<=10:=by omega
   clear hlen
   go_wp2_with fail
   refine(containsR 257 #[] (enters_of Tryz.func257 (by kernel_rfl) rfl) badR B _ k ws _ (Ht.out.later HY1.out.bel) (λx W _ _=>badR2_any x W)).mono ?_
   rintro e w2⟨rfl,hb2⟩
   have HY2:=Lib.hid (HY1.out.later hb2)
   have Hv2:=Lib.hid (Hv.out.later hb2)
   clear hb2
   obtain⟨qa,hqa⟩:∃qa,ws.any badR=qa:=⟨_,rfl⟩
   rw[hqa]at HE1 ⊢
   have Hqa:=Lib.hid hqa
   clear hqa d1
   cases qa with
   |true=>
    have HE2:=Lib.hid (show proofE L rs ws=3 by rw[HE1.out];rfl)
    go_wp2
    go_ret2
    exact⟨by rw[show proofV L rs ws=0 by unfold proofV;rw[HE2.out];rfl,HE2.out];rfl,HY2.out.bel⟩
   |false=>
    have HE2:=Lib.hid (show proofE L rs ws=if sepB (-1) ws then 0 else 16 by rw[HE1.out];rfl)
    go_wp2_with fail
    refine lpn (λq b W=>b.defers=[]/\∃(i:Nat)(s en:Int),i+q=ws.length/\Hid (s+((ws.drop i).map (needP L rs)).sum=(ws.map (needP L rs)).sum/\0<=s/\s<=1010*(i:Int))/\Hid (sepB en (ws.drop i)=sepB (-1) ws)/\YB w W L A rs.length c/\Blk W g 99 #[.int .i64 L,.slice A rs.length c]/\Fits (none::none::none::none::none::none::some (.pointer (some ⟨g,0,none⟩))::none::some (.int .i64 s)::some (.int .i64 en)::none::none::none::none::none::none::none::none::none::none::none::none::none::none::none::none::none::none::some (.slice B ws.length k)::some (.int .i64 (ws.length:Nat))::some (.int .i64 (i:Nat))::none::none::none::none::none::none::none::none::none::none::none::none::none::none::none::none::[]) b.tmps.toList) ws.length ?_ ?_
    ·refine⟨rfl,0,0,-1,by omega,Lib.hid ⟨by simp,by omega,by omega⟩,Lib.hid rfl,HY2.out,Hv2.out,?_⟩
     repeat (first|exact ftL|refine ftN ?_|refine ftS ?_)
    clear HY1 Hv HY2 Hv2
    intro q b W hI K hK
    obtain⟨hds,i,s,en,hiq,hsum,hsep,hY,hv,hfit⟩:=hI
    obtain⟨f,hf⟩:=ftA hfit
    rw[hds]at hf
    subst hf
    clear hfit hds
    simp only[fillP,Nat.reduceAdd]
    have HY:=Lib.hid hY
    have Hv:=Lib.hid hv
    by_cases hlt:i<ws.length
    ·obtain⟨rb,ro,x,rfl,hrb,hx,g0,g1⟩:=(Ht.out.later hY.bel).ltR hlt
     have hdr:ws.drop i=x::ws.drop (i+1):=by
      obtain⟨h1,h2⟩:=List.getElem?_eq_some_iff.1 hx
      rw[List.drop_eq_getElem_cons h1,h2]
     have i1:(i:Int)<(ws.length:Int):=by omega
     have i2:(0:Int)<=(i:Int):=by omega
     have i3:IntKind.i64.wrap ((i:Int)+1)=(i:Int)+1:=by rw[IntKind.wrap_i64];omega
     have hal:=balloc (brefl W) (.cells #[.int .i64 x.lo,.int .i64 x.hi] 34)
     have hB:Blk (W.alloc (.cells #[.int .i64 x.lo,.int .i64 x.hi] 34)) W.heap.size 34 #[.int .i64 x.lo,.int .i64 x.hi]:=Blk.new _ _ _
     have hY3:=hY.later hal
     have hnd:=Lib.hid (λW'(hb:Below (W.alloc (.cells #[.int .i64 x.lo,.int .i64 x.hi] 34)).heap.size (W.alloc (.cells #[.int .i64 x.lo,.int .i64 x.hi] 34)) W')=>need_any g L A rs.length c rs x W' ((hv.later hal).later hb) (Hs.out.later (hY3.later hb).bel) (by have:=Hr.out.1;omega) hL (λx hx=>(Hr.out.2 x hx).2.1))
     obtain⟨n0,n1⟩:=need_le hL Hr.out x
     obtain⟨s0,s1,s2⟩:=hsum.out
     have hwr:IntKind.i64.wrap (s+needP L rs x)=s+needP L rs x:=by rw[IntKind.wrap_i64];omega
     have hdl:decide (x.lo<=en)=!decide (en<x.lo):=by
      rw[Bool.eq_iff_iff];simp
     have Hsum:=Lib.hid (show s+needP L rs x+((ws.drop (i+1)).map (needP L rs)).sum=(ws.map (needP L rs)).sum/\0<=s+needP L rs x/\s+needP L rs x<=1010*((i+1:Nat):Int)by
      rw[hdr,List.map_cons,List.sum_cons]at s0
      exact⟨by omega,by omega,by omega⟩)
     have hs3:(decide (en<x.lo)&&sepB x.hi (ws.drop (i+1)))=sepB (-1) ws:=by rw[<-hsep.out,hdr];rfl
     have HS:=Lib.hid hs3
     have HB:=Lib.hid hB
     have HY3:=Lib.hid hY3
     have Hv3:=Lib.hid (hv.later hal)
     have c0:=hB.cell 0
     have c1:=hB.cell 1
     have c2:=hB.lt
     obtain⟨nd,hndq⟩:∃nd,needP L rs x=nd:=⟨_,rfl⟩
     rw[hndq]at hnd hwr Hsum
     obtain⟨ql,hql⟩:∃ql,decide (en<x.lo)=ql:=⟨_,rfl⟩
     rw[hql]at HS hdl
     clear hY hv hsum hsep hx hdr hal hB hY3 hs3 hndq n0 n1 s0 s1 s2 hql HY Hv
     cases ql with
     |false=>
      have HE3:=Lib.hid (show proofE L rs ws=16 by rw[HE2.out,<-HS.out];rfl)
      clear hK
      go_wp2
      go_ret2
      exact⟨by rw[show proofV L rs ws=0 by unfold proofV;rw[HE3.out];rfl,HE3.out];rfl,HY3.out.bel⟩
     |true=>
      have HS2:=Lib.hid (show sepB x.hi (ws.drop (i+1))=sepB (-1) ws by rw[<-HS.out];rfl)
      clear HS
      go_wp2_with fail
      refine dag 9 (by kernel_rfl) (by kernel_rfl) (.is ?_::.is ?_::.is ?_::.is ?_::.is ?_::.is ?_::.is ?_::.is ?_::.is ?_::[]) rfl ?st1 ?ob1
      case st1=>simp[Spec.ok]
      case ob1=>
       intro env W' hG
       obtain⟨hc,hf⟩:=bcell hG
       iterate 3 (refine obI ?_ ?_;unfold dsA;go_simp;(try go_bits);(first|(refine⟨brefl _,?_⟩;rfl)|rfl);intro K hK;go_simp;refine hK _ ?_;clear hK K)
       refine obI ?_ ?_
       ·unfold dsA
        go_simp
        refine(hnd.out W' hG).mono ?_
        rintro e w3⟨rfl,hb3⟩
        refine⟨?_,hb3⟩
        rfl
       intro K' hK'
       go_simp
       refine hK' _ ?_
       clear hK' K'
       repeat (refine obI ?_ ?_;unfold dsA;go_simp;(try go_bits);(first|(refine⟨brefl _,?_⟩;rfl)|rfl);intro K hK;go_simp;refine hK _ ?_;clear hK K)
       refine obN (λ_=>?_)
       have HY4:=Lib.hid (HY3.out.later hG)
       have Hv4:=Lib.hid (Hv3.out.later hG)
       clear hc hf hG
       go_wp2
       refine hK _ _ (q-1) (by omega) ⟨rfl,i+1,_,_,by omega,Lib.hid Hsum.out,Lib.hid HS2.out,HY4.out,Hv4.out,?_⟩
       repeat (first|exact ftL|refine ftN ?_|refine ftS ?_)
    ·obtain rfl:i=ws.length:=by omega
     have HV:=Lib.hid (show s=(ws.map (needP L rs)).sum by have h1:=hsum.out.1;rw[List.drop_length]at h1;simpa using h1)
     have HE3:=Lib.hid (show proofE L rs ws=0 by
      have h1:=hsep.out
      rw[List.drop_length]at h1
      rw[HE2.out,<-h1];rfl)
     clear hK hsum hsep hY hv
     go_wp2
     go_ret2
     exact⟨by rw[show proofV L rs ws=s by unfold proofV;rw[HE3.out,if_pos rfl,HV.out],HE3.out];rfl,HY.out.bel⟩
 ·have h1:proofE L rs ws=yardE L rs:=by unfold proofE;rw[if_neg he]
  unfold proofV
  rw[h1,if_neg he]
  exact checkProof_bad L A _ c rs _ w hs he
end Go.Proofs.YtifehdoghfnhoaaGreatDoor
namespace Go.Proofs.YtifehdoghfnhoaaGreatDoor
open Go.RowKit Go.Shelf
def keepE(L:Int)(rs:List Rg)(ld:Int):Int:=if yardE L rs=0 then(if inR 0 10 ld then 0 else 3)else yardE L rs
def keepV(L:Int)(rs:List Rg)(ld:Int):List Nat:=if yardE L rs=0 then(if inR 0 10 ld then pickL (goL (fitsB rs L.toNat ld) rs.length rs.length []) []else [])else []
set_option maxRecDepth 100000 in
set_option maxHeartbeats 4000000 in
theorem keep_any(L:Int)(A:Option Addr)(n c:Nat)(rs:List Rg)(ld:Int)(w:World)(hs:Sl 2 encR w w.heap.size A n c rs):
 Calls Tryz.prog 168 #[.agg #[.int .i64 L,.slice A n c],.int .i64 ld] w λe w'=>∃v,e=.returned (.tuple #[v,.int .i64 (keepE L rs ld)])/\Below w.heap.size w w'/\ListV w' w.heap.size (keepV L rs ld) v:=by
 obtain rfl:=hs.len
 by_cases he:yardE L rs=0
 ·obtain⟨m,rfl,hL,hr⟩:=yard_nat he
  unfold keepV keepE
  rw[if_pos he,if_pos he]
  have hb0:Below w.heap.size w ((w.alloc (.cells #[.int .i64 (m:Int),.slice A rs.length c] 30)).alloc (.cells #[.int .i64 ld] 2)):=balloc (balloc (brefl w) _) _
  have hZ:=Blk.new (w.alloc (.cells #[.int .i64 (m:Int),.slice A rs.length c] 30)) 2 #[.int .i64 ld]
  rw[World.size_alloc]at hZ
  have hY:=(Blk.new w 30 #[.int .i64 (m:Int),.slice A rs.length c]).alloc (.cells #[.int .i64 ld] 2)
  have hc:=Lib.hid (open_ok (m:Int) A rs.length c rs _ (hs.later hb0) he)
  have Hs:=Lib.hid hs
  have Hr:=Lib.hid hr
  have HB0:=Lib.hid hb0
  have HZ:=Lib.hid hZ
  have HY:=Lib.hid hY
  obtain⟨q,hq⟩:∃q,inR 0 10 ld=q:=⟨_,rfl⟩
  rw[hq]
  have Hq:=Lib.hid hq
  clear hs he hr hb0 hZ hY hq
  rw[show((m:Nat):Int).toNat=m by omega]
  go_enter Tryz.func168,Tryz.ntmps168
  go_wp2_with fail
  refine hc.out.mono ?_
  rintro e w1⟨g,rfl,hb1,hg,hv⟩
  have hB1:=Below.later HB0.out hb1
  have hZ1:=HZ.out.later hb1
  have hY1:=HY.out.later hb1
  have z0:=hZ1.cell 0
  have z1:=hZ1.lt
  have HB1:=Lib.hid hB1
  have HZ1:=Lib.hid hZ1
  have HY1:=Lib.hid hY1
  clear hb1 hB1 hZ1 hY1 hv
  go_wp2_with fail
  refine(within_one 0 10 ld w1.heap.size _ (by simp) (by go_simp)).mono ?_
  rintro e w2⟨rfl,hb2⟩
  rw[Hq.out]
  have hal:=balloc (brefl w1) (.cells #[.int .i64 ld] 2)
  have hB2:=Below.later (Below.later HB1.out hal) hb2
  have hZ2:=(HZ1.out.later hal).later hb2
  have hY2:=(HY1.out.later hal).later hb2
  have y0:=hY2.cell 0
  have y1:=hY2.cell 1
  have y2:=hY2.lt
  have HB2:=Lib.hid hB2
  have HZ2:=Lib.hid hZ2
  have HY2:=Lib.hid hY2
  clear hb2 hB2 hZ2 hY2 hal z0 z1
  cases q with
  |false=>
   go_wp2
   all_goals
    go_ret2
    exact⟨_,rfl,HB2.out,World.ownsRow_nil _ _ _ _⟩
  |true=>
   have hli:=Lib.hid (lists_any rs.length 261 #[.pointer (some ⟨w.heap.size,0,none⟩),.pointer (some ⟨w.heap.size+1,0,none⟩)] (enters_of Tryz.func261 (by kernel_rfl) rfl) (fitsB rs m ld) Hr.out.1 w2 (λl v W hb hl hx hn=>by
    exact keep1_any w.heap.size (w.heap.size+1) m A c rs ld w2.heap.size l v W (HY2.out.below hb HY2.out.lt) (HZ2.out.below hb HZ2.out.lt) ((Hs.out.later HB2.out).below hb |>.wider hb.size) Hr.out hL hl hx hn))
   go_wp2_with fail
   refine hli.out.mono ?_
   rintro e w3⟨ov,vs,rfl,hb3,hov⟩
   have HB3:=Lib.hid (Below.later HB2.out hb3)
   have Hov:=Lib.hid hov
   have HS2:=Lib.hid HB2.out.size
   clear hb3 hov hli y0 y1 y2
   go_wp2_with fail
   refine(bestL_any w2.heap.size [] _ ov vs _ Hov.out).mono ?_
   rintro e w4⟨v,rfl,hlv,hb4⟩
   have HB4:=Lib.hid (Below.later HB3.out hb4)
   have Hlv:=Lib.hid (show ListV w4 w.heap.size _ v from own_low hlv HS2.out)
   clear hlv hb4
   go_wp2
   go_ret2
   exact⟨v,rfl,HB4.out,Hlv.out⟩
 ·unfold keepV keepE
  rw[if_neg he,if_neg he]
  refine(keep_bad L A _ c rs ld w hs he).mono ?_
  rintro e w'⟨rfl,hb⟩
  exact⟨_,rfl,hb,World.ownsRow_nil _ _ _ _⟩
end Go.Proofs.YtifehdoghfnhoaaGreatDoor
namespace Go.Proofs.YtifehdoghfnhoaaGreatDoor
open Go.RowKit Go.Shelf
def backR(r:Rg):Rg:=⟨100-r.hi,100-r.lo⟩
def backP(rs:List Rg):List Rg:=rs.map backR
structure KB(w W:World)(L:Int)(A:Option Addr)(n c:Nat)(v:Value)(xs:List Rg):Prop where
 bx:BX w W w.heap.size (w.heap.size+1+1) 30 L v xs
 b0:Blk W w.heap.size 30 #[.int .i64 L,.slice A n c]
 b1:Blk W (w.heap.size+1) 30 #[.int .i64 0,.slice none 0 0]
section
variable{w W W':World}{L:Int}{A:Option Addr}{n c:Nat}{v:Value}{xs:List Rg}
theorem KB.later(h:KB w W L A n c v xs)(hb:Below W.heap.size W W'):KB w W' L A n c v xs:=⟨h.bx.later hb,h.b0.later hb,h.b1.later hb⟩
theorem KB.grown(h:KB w W L A n c v xs){v':Value}{x:Rg}(hg:W.grownBy W' v.ownBlock)(ho:W'.ownsRow w.heap.size 34 2 v' (xs.length+1) (xs.flatMap encR++encR x)):KB w (W'.setCell ⟨w.heap.size+1+1,1,none⟩ v') L A n c v' (xs++[x]):=
 ⟨h.bx.grown (by decide) hg ho,(h.b0.grown hg (h.b0.notRow h.bx.own (by decide))).other (by show w.heap.size+1+1≠_;omega) _,(h.b1.grown hg (h.b1.notRow h.bx.own (by decide))).other (by show w.heap.size+1+1≠_;omega) _⟩
end
set_option maxRecDepth 100000 in
set_option maxHeartbeats 4000000 in
theorem back_any(L:Int)(A:Option Addr)(n c:Nat)(rs:List Rg)(w:World)(hs:Sl 2 encR w w.heap.size A n c rs)(hr:RsOk rs):
 Calls Tryz.prog 259 #[.agg #[.int .i64 L,.slice A n c]] w λe w'=>∃A' c',e=.returned (.agg #[.int .i64 L,.slice A' n c'])/\Below w.heap.size w w'/\Sl 2 encR w' w'.heap.size A' n c' (backP rs):=by
 obtain rfl:=hs.len
 have hn10:=hr.1
 have hbl1:=(Blk.new (w.alloc (.cells #[.int .i64 L,.slice A rs.length c] 30)) 30 #[.int .i64 0,.slice none 0 0]).alloc (.cells #[.int .i64 L,.slice none 0 0] 30)
 have hbl2:=Blk.new ((w.alloc (.cells #[.int .i64 L,.slice A rs.length c] 30)).alloc (.cells #[.int .i64 0,.slice none 0 0] 30)) 30 #[.int .i64 L,.slice none 0 0]
 rw[World.size_alloc]at hbl1
 rw[World.size_alloc,World.size_alloc]at hbl2
 have HK0:=Lib.hid (show KB w (((w.alloc (.cells #[.int .i64 L,.slice A rs.length c] 30)).alloc (.cells #[.int .i64 0,.slice none 0 0] 30)).alloc (.cells #[.int .i64 L,.slice none 0 0] 30)) L A rs.length c (.slice none 0 0) []from⟨⟨balloc (balloc (balloc (brefl w) _) _) _,hbl2,World.ownsRow_nil _ _ _ _,by omega⟩,((Blk.new w _ _).alloc _).alloc _,hbl1⟩)
 have Hs:=Lib.hid hs
 have Hr:=Lib.hid hr
 clear hs hr hbl1 hbl2
 go_enter Tryz.func259,Tryz.ntmps259
 go_wp2_with fail
 refine lpn (λm a W=>a.defers=[]/\∃(i:Nat)(v:Value),i+m=rs.length/\KB w W L A rs.length c v (backP (rs.take i))/\Fits (none::some (.pointer (some ⟨w.heap.size,0,none⟩))::some (.pointer (some ⟨w.heap.size+1,0,none⟩))::some (.pointer (some ⟨w.heap.size+1+1,0,none⟩))::none::none::none::none::none::none::some (.slice A rs.length c)::some (.int .i64 (rs.length:Nat))::some (.int .i64 (i:Nat))::none::none::none::none::none::none::none::none::none::none::none::none::none::none::none::none::none::[]) a.tmps.toList) rs.length ?_ ?_
 ·refine⟨rfl,0,_,by omega,HK0.out,?_⟩
  repeat (first|exact ftL|refine ftN ?_|refine ftS ?_)
 clear HK0
 intro m a W hI K hK
 obtain⟨hds,i,v,him,hKB,hfit⟩:=hI
 obtain⟨f,hf⟩:=ftA hfit
 rw[hds]at hf
 subst hf
 clear hfit hds
 simp only[fillP,Nat.reduceAdd]
 have HK:=Lib.hid hKB
 by_cases hlt:i<rs.length
 ·obtain⟨rb,ro,x,rfl,hrb,hx,g0,g1⟩:=(Hs.out.later hKB.bx.bel).ltR hlt
  obtain⟨a0,a1,a2⟩:=Hr.out.2 x (List.mem_of_getElem? hx)
  have hadd:backP (rs.take (i+1))=backP (rs.take i)++[backR x]:=by
   obtain⟨h1,h2⟩:=List.getElem?_eq_some_iff.1 hx
   unfold backP
   rw[List.take_succ_eq_append_getElem h1,h2,List.map_append,List.map_cons,List.map_nil]
  obtain⟨xs,hxs⟩:∃xs,backP (rs.take i)=xs:=⟨_,rfl⟩
  have hxl:xs.length<=10:=by rw[<-hxs];simp[backP];omega
  rw[hxs]at hKB HK hadd
  have Hadd:=Lib.hid hadd
  have i1:(i:Int)<(rs.length:Int):=by omega
  have i2:(0:Int)<=(i:Int):=by omega
  have i3:IntKind.i64.wrap ((i:Int)+1)=(i:Int)+1:=by rw[IntKind.wrap_i64];omega
  have i4:IntKind.i64.wrap (100-x.hi)=100-x.hi:=by rw[IntKind.wrap_i64];omega
  have i5:IntKind.i64.wrap (100-x.lo)=100-x.lo:=by rw[IntKind.wrap_i64];omega
  have hal:=balloc (brefl W) (.cells #[.int .i64 x.lo,.int .i64 x.hi] 34)
  have hK1:=hKB.later hal
  have hBx:Blk (W.alloc (.cells #[.int .i64 x.lo,.int .i64 x.hi] 34)) W.heap.size 34 #[.int .i64 x.lo,.int .i64 x.hi]:=Blk.new _ _ _
  have c0:=hBx.cell 0
  have c1:=hBx.cell 1
  have c2:=hBx.lt
  have b0:=hK1.bx.bp.cell 0
  have b1:=hK1.bx.bp.cell 1
  have b2:=hK1.bx.bp.lt
  have HK2:=Lib.hid (hK1.later (balloc (brefl _) (.cells #[.int .i64 (100-x.hi),.int .i64 (100-x.lo)] 34)))
  obtain⟨i0,hi0,hz0,hz1,hz2⟩:=info_parts info_rg
  clear hKB HK hx hadd hxs hal hK1 hBx
  go_wp2_with (at_builtin;refine wpList_append_own _ rfl _ _ 28 rfl w.heap.size 34 i0 (.agg #[.int .i64 0,.int .i64 0]) 2 16 und_rgs hi0 hz0 hz1 hz2 rfl (by decide) v xs.length _ rfl HK2.out.bx.own ⟨W.heap.size+1,0,none⟩ 1 1 [.int .i64 (100-x.hi),.int .i64 (100-x.lo)] rfl rfl (by have h5:=two_new (W.alloc (.cells #[.int .i64 x.lo,.int .i64 x.hi] 34)) (.int .i64 (100-x.hi)) (.int .i64 (100-x.lo)) 34;rw[World.size_alloc]at h5;exact h5) (by simp[Value.oneCell']) (by simp only[maxLen];omega) (by omega) (by have:=HK2.out.bx.bp.lt;omega) ?_;intro v' W3 hown' hgr _;obtain⟨gg,cap,rfl⟩:=own_succ hown';have hb3:=HK2.out.bx.bp.grown hgr (HK2.out.bx.bp.notRow HK2.out.bx.own (by decide));have e0:=hb3.cell 1;have e1:=hb3.lt;have e2:=hb3.frozen 1;have HK3:=Lib.hid (HK2.out.grown (x:=backR x) hgr hown');clear hb3 hown' hgr)
  rw[<-Hadd.out]at HK3
  refine hK _ _ (m-1) (by omega) ⟨rfl,i+1,_,by omega,HK3.out,?_⟩
  repeat (first|exact ftL|refine ftN ?_|refine ftS ?_)
 ·obtain rfl:i=rs.length:=by omega
  rw[List.take_length]at hKB HK
  obtain⟨A',c',hv,hsl⟩:=hKB.bx.sl
  subst hv
  have hbl:(backP rs).length=rs.length:=by simp[backP]
  rw[hbl]at hKB HK hsl
  have b0:=hKB.bx.bp.cell 0
  have b1:=hKB.bx.bp.cell 1
  have b2:=hKB.bx.bp.lt
  have b3:=hKB.b1.frozen 0
  have b4:=hKB.b1.frozen 1
  have b5:=hKB.b1.cell 0
  have b6:=hKB.b1.cell 1
  have b7:=hKB.b1.lt
  clear hK hKB
  go_wp2
  have hKB:=HK.out
  refine bodyPost_ret (v:=.agg #[.int .i64 L,.slice A' rs.length c']) ?_ rfl ⟨A',c',rfl,(hKB.bx.bel.setCell (by show w.heap.size<=w.heap.size+1;omega) _).setCell (by show w.heap.size<=w.heap.size+1;omega) _,?_⟩
  ·have e0:((W.setCell ⟨w.heap.size+1,0,none⟩ (.int .i64 L)).setCell ⟨w.heap.size+1,1,none⟩ (.slice A' rs.length c')).cell? ⟨w.heap.size+1,0,none⟩=some (.int .i64 L):=by
    rw[((hKB.b1.set 0 _).set 1 _).cell 0];rfl
   have e1:((W.setCell ⟨w.heap.size+1,0,none⟩ (.int .i64 L)).setCell ⟨w.heap.size+1,1,none⟩ (.slice A' rs.length c')).cell? ⟨w.heap.size+1,1,none⟩=some (.slice A' rs.length c'):=by
    rw[((hKB.b1.set 0 _).set 1 _).cell 1];rfl
   simp[results,Tryz.results259,go_sem,e0,e1]
  ·have h5:=hKB.bx.own
   have hnr:=hKB.b1.notRow h5 (by decide)
   rw[hbl]at h5
   obtain⟨A2,c2,he2,hsl2⟩:=own_slG (k:=2) (enc:=encR) (λ_=>rfl) (own_other (own_other h5 ⟨w.heap.size+1,0,none⟩ hnr (.int .i64 L)) ⟨w.heap.size+1,1,none⟩ hnr (.slice A' rs.length c')) hbl
   simp only[Value.slice.injEq]at he2
   obtain⟨rfl,_,rfl⟩:=he2
   exact hsl2
end Go.Proofs.YtifehdoghfnhoaaGreatDoor
