/- The hours and the proof that are returned are right, and have as many loads. No program. · Right hours have at least the fewest loads; a right proof proves at most as many. No program. · Plain laws of the fewest loads: the late loads as the greedy filling; chains; hours. No program. · Plain laws of hours: more room, wider ranges, counted back; one log in a load, all logs in one. No program. · One hour of the document's least loads, window by window. No program. -/
import Derived.Test.YtednconodjeniaaGreatSApiG
import Derived.BigRegion
namespace Go.Proofs.YtednconodjeniaaGreat
open Go.RowKit Go.Shelf
def OwnN(W:World)(base g n cap:Nat)(M:Nat->Int):Prop:=W.ownsRow base 2 1 (.slice (some ⟨g,0,none⟩) n cap) n ((List.range n).map λp=>Value.int .i64 (M p))
section
variable{W W':World}{base g n cap:Nat}{M:Nat->Int}
theorem OwnN.later(h:OwnN W base g n cap M)(hb:Below W.heap.size W W'):OwnN W' base g n cap M:=own_later h hb
theorem OwnN.parts(h:OwnN W base g n cap M):base<=g/\n<=cap/\cap<=9223372036854775807/\∃cur:Array Value,Blk W g 2 cur/\cur.size=cap/\∀p,p<n->cur[p]? =some (.int .i64 (M p)):=by
 rcases h.2 with⟨hv,_⟩|⟨g',cap',cur,hv,hb,hg,hc,hm,hs,ht⟩
 ·cases hv
 ·simp only[Value.slice.injEq,Option.some.injEq,Addr.mk.injEq,and_true]at hv
  obtain⟨rfl,_,rfl⟩:=hv
  refine⟨hb,hc,by simp only[maxLen]at hm;omega,cur,hg,by omega,λp hp=>?_⟩
  have h1:(List.take (n*1) cur.toList)[p]? =some (.int .i64 (M p)):=by
   rw[ht,List.getElem?_map,List.getElem?_range hp];rfl
  rw[List.getElem?_take_of_lt (by omega)]at h1
  simpa using h1
theorem OwnN.cells(h:OwnN W base g n cap M):g<W.heap.size/\(∀o,W.frozen? ⟨g,o,none⟩=false)/\∀p,p<n->W.cell? ⟨g,p,none⟩=some (.int .i64 (M p)):=by
 obtain⟨_,_,_,cur,hb,_,hc⟩:=h.parts
 exact⟨hb.lt,λo=>hb.frozen o,λp hp=>(hb.cell p).trans (hc p hp)⟩
theorem OwnN.set(h:OwnN W base g n cap M)(i:Nat)(x:Int):OwnN (W.setCell ⟨g,i,none⟩ (.int .i64 x)) base g n cap (updN M i x):=by
 obtain⟨hb,hc,hm,cur,hblk,hsz,hcell⟩:=h.parts
 refine⟨by simp,.inr ⟨g,cap,_,rfl,hb,hblk.set i (.int .i64 x),hc,by simp only[maxLen];omega,by simp[hsz],?_⟩⟩
 apply List.ext_getElem
 ·simp[hsz];omega
 ·intro p h1 h2
  have hp:p<n:=by simpa using h2
  have h3:=hcell p hp
  obtain⟨hpc,h3⟩:=Array.getElem?_eq_some_iff.1 h3
  simp only[List.getElem_take,Array.getElem_toList,List.getElem_map,List.getElem_range]
  rw[Array.getElem_setIfInBounds hpc,h3]
  by_cases e:i=p
  ·subst e;simp[updN]
  ·simp[e,updN,show¬p=i fromλh=>e h.symm]
theorem OwnN.congr{M':Nat->Int}(h:OwnN W base g n cap M)(hM:∀p,p<n->M p=M' p):OwnN W base g n cap M':=by
 unfold OwnN at h ⊢
 rw[show((List.range n).map λp=>Value.int .i64 (M' p))=((List.range n).map λp=>Value.int .i64 (M p))from List.map_congr_left λp hp=>by rw[hM p (List.mem_range.1 hp)]]
 exact h
end
def revM(T:Nat->Int)(n i p:Nat):Int:=if p<i\/n<=p+i then T (n-1-p)else T p
theorem rev_step(T:Nat->Int)(n i:Nat)(hi:2*i+1<n):∀p,p<n->updN (updN (revM T n i) i (T (n-1-i))) (n-1-i) (T i) p=revM T n (i+1) p:=by
 intro p hp
 unfold updN revM
 by_cases e1:p=n-1-i
 ·subst e1
  rw[if_pos rfl,if_pos (by omega),show n-1-(n-1-i)=i by omega]
 ·rw[if_neg e1]
  by_cases e2:p=i
  ·subst e2
   rw[if_pos rfl,if_pos (by omega)]
  ·rw[if_neg e2]
   by_cases h1:p<i\/n<=p+i
   ·rw[if_pos h1,if_pos (by omega)]
   ·rw[if_neg h1,if_neg (by omega)]
set_option maxRecDepth 100000 in
set_option maxHeartbeats 4000000 in
theorem reverse_any(base g n cap:Nat)(T:Nat->Int)(w:World)(hn:n<=1000000)(ho:OwnN w base g n cap T):
 Calls Tryz.prog 136 #[.slice (some ⟨g,0,none⟩) n cap] w λe w'=>e=.returned (.tuple #[])/\Below base w w'/\OwnN w' base g n cap (λp=>T (n-1-p)):=by
 have Ho:=Lib.hid ho
 have hbg:=ho.parts.1
 clear ho
 have i0:IntKind.i64.wrap ((n:Int)-1)=(n:Int)-1:=by rw[IntKind.wrap_i64];omega
 go_enter Tryz.func136,Tryz.ntmps136
 go_wp2_with fail
 refine loop_n (λm a W=>a.defers=[]/\∃(i:Nat)(j:Int),i+m=n/\j=(n:Int)-1-(i:Int)/\2*i<=n+1/\Below base w W/\OwnN W base g n cap (revM T n i)/\Fits (some (.slice (some ⟨g,0,none⟩) n cap)::none::some (.int .i64 (i:Nat))::some (.int .i64 j)::none::none::none::none::none::none::none::none::none::none::none::none::none::none::none::none::none::none::none::none::none::none::none::none::[]) a.tmps.toList) n ?_ ?_
 ·refine⟨rfl,0,(n:Int)-1,by omega,by omega,by omega,Below.refl _ _,Ho.out.congr (λp hp=>by unfold revM;rw[if_neg (by omega)]),?_⟩
  repeat (first|exact fits_nil|refine fits_none ?_|refine fits_some ?_)
 clear i0
 intro m a W hI K hK
 obtain⟨hds,i,j,him,hj,h2i,hb,ho,hfit⟩:=hI
 obtain⟨f,hf⟩:=fits_act hfit
 rw[hds]at hf
 subst hf
 clear hfit hds
 simp only[fillP,Nat.reduceAdd]
 obtain⟨c2,c3,c0⟩:=ho.cells
 have HO:=Lib.hid ho
 have HB:=Lib.hid hb
 by_cases hlt:2*i+1<n
 ·obtain⟨k,hk⟩:∃k,n-1-i=k:=⟨_,rfl⟩
  have hjk:j=(k:Int):=by omega
  have hki:k<n:=by omega
  have hkn:k≠i:=by omega
  have d0:=c0 i (by omega)
  have d1:=c0 k hki
  have e0:revM T n i i=T i:=by unfold revM;rw[if_neg (by omega)]
  have e1:revM T n i k=T k:=by unfold revM;rw[if_neg (by omega)]
  rw[e0]at d0
  rw[e1]at d1
  have d2:=c3 i
  have d3:=c3 k
  have HS:=Lib.hid (show OwnN ((W.setCell ⟨g,i,none⟩ (.int .i64 (T k))).setCell ⟨g,k,none⟩ (.int .i64 (T i))) base g n cap (revM T n (i+1))from((ho.set i (T k)).set k (T i)).congr (by rw[<-hk];exact rev_step T n i hlt))
  have i1:(i:Int)<(k:Int):=by omega
  have i2:(0:Int)<=(i:Int):=by omega
  have i3:IntKind.i64.wrap ((i:Int)+1)=(i:Int)+1:=by rw[IntKind.wrap_i64];omega
  have i4:IntKind.i64.wrap ((k:Int)-1)=(k:Int)-1:=by rw[IntKind.wrap_i64];omega
  have i5:(k:Int)<(n:Int):=by omega
  have i6:(i:Int)<(n:Int):=by omega
  have i7:(0:Int)<=(k:Int):=by omega
  have Hk:=Lib.hid hk
  subst hjk
  clear hb ho c0 c3 e0 e1 hk hj HO
  go_wp2_with fail
  go_region
  go_wp2
  have hk2:=Hk.out
  refine hK _ _ (m-1) (by omega) ⟨rfl,i+1,(k:Int)-1,by omega,by omega,by omega,((HB.out.setCell hbg _).setCell hbg _).drew,HS.out.later (brefl _).drew,?_⟩
  repeat (first|exact fits_nil|refine fits_none ?_|refine fits_some ?_)
 ·have j1:¬((i:Int)<j):=by omega
  have HE:=Lib.hid (ho.congr (M':=λp=>T (n-1-p)) (λp hp=>by
   unfold revM
   by_cases h1:p<i\/n<=p+i
   ·rw[if_pos h1]
   ·rw[if_neg h1,show n-1-p=p by omega]))
  clear hK hb ho c0 c3 hj
  go_wp2
  go_end0
  exact⟨rfl,HB.out,HE.out⟩
set_option maxHeartbeats 1000000 in
theorem reverse_nil(w:World):
 Calls Tryz.prog 136 #[.slice none 0 0] w λe w'=>e=.returned (.tuple #[])/\Below w.heap.size w w':=by
 go_enter Tryz.func136,Tryz.ntmps136
 go_wp2_with fail
 refine wp_loop_rounds 1 ?_
 rw[rounds_succ]
 go_wp2
 go_end0
 exact⟨rfl,brefl _⟩
end Go.Proofs.YtednconodjeniaaGreat
namespace Go.Proofs.YtednconodjeniaaGreat
open Go.RowKit Go.Shelf
def earlyV(L:Int)(rs:List Rg):List Int:=if yardE L rs=0 then((Fill.lateP (LA (backP rs) L.toNat) 101).reverse).map (λt=>100-t)else []
theorem yard_of{L:Int}{rs:List Rg}(hL:1<=L/\L<=10)(hr:RsOk rs):yardE L rs=0:=by
 unfold yardE
 rw[if_pos ((inR_iff _ _ _).2 hL),if_neg (by have:=hr.1;omega),if_neg]
 intro ha
 obtain⟨x,hx,hb⟩:=List.any_eq_true.1 ha
 have h1:=hr.2 x hx
 unfold badR at hb
 have h2:winB x=true:=by rw[win_alt];simp;omega
 rw[h2]at hb
 cases hb
theorem back_ok{rs:List Rg}(hr:RsOk rs):RsOk (backP rs):=by
 refine⟨by simpa[backP]using hr.1,λx hx=>?_⟩
 obtain⟨y,hy,rfl⟩:=List.mem_map.1 hx
 have h1:=hr.2 y hy
 unfold backR
 simp only
 omega
theorem late_mem{A:Nat->Int}{t:Int}(h:t∈Fill.lateP A 101):0<=t/\t<=100:=by
 unfold Fill.lateP at h
 obtain⟨j,hj,ht⟩:=List.mem_flatMap.1 h
 have h1:=List.mem_range.1 hj
 obtain⟨_,rfl⟩:=List.mem_replicate.1 ht
 omega
theorem rangeM(ts:List Int):ts.map (Value.int .i64)=(List.range ts.length).map λp=>Value.int .i64 (ts.getD p 0):=by
 apply List.ext_getElem
 ·simp
 ·intro i h1 h2
  have h3:i<ts.length:=by simpa using h1
  simp[List.getD,h3]
theorem revMap(ts:List Int):(ts.reverse.map λt=>100-t).map (Value.int .i64)=(List.range ts.length).map λp=>Value.int .i64 (100-ts.getD (ts.length-1-p) 0):=by
 apply List.ext_getElem
 ·simp
 ·intro i h1 h2
  have h3:i<ts.length:=by simpa using h1
  simp[List.getD,show ts.length-1-i<ts.length by omega]
set_option maxRecDepth 100000 in
set_option maxHeartbeats 4000000 in
theorem early_any(L:Int)(A:Option Addr)(n c:Nat)(rs:List Rg)(w:World)(hs:Sl 2 encR w w.heap.size A n c rs):
 Calls Tryz.prog 84 #[.agg #[.int .i64 L,.slice A n c]] w λe w'=>∃v,e=.returned (.tuple #[v,.int .i64 (yardE L rs)])/\Below w.heap.size w w'/\w'.ownsRow w.heap.size 2 1 v (earlyV L rs).length ((earlyV L rs).map (.int .i64)):=by
 obtain rfl:=hs.len
 have HY:=Lib.hid (show YB w (w.alloc (.cells #[.int .i64 L,.slice A rs.length c] 33)) L A rs.length c from⟨balloc (brefl w) _,Blk.new w _ _⟩)
 have hc:=Lib.hid (checkYard_any L A rs.length c rs _ (hs.later HY.out.bel))
 have Hs:=Lib.hid hs
 by_cases he:yardE L rs=0
 ·obtain⟨m,rfl,hL,hr⟩:=yard_nat he
  have Hr:=Lib.hid hr
  rw[he]at hc ⊢
  unfold earlyV
  rw[if_pos he,show((m:Nat):Int).toNat=m by omega]
  obtain⟨ts,hts⟩:∃ts,Fill.lateP (LA (backP rs) m) 101=ts:=⟨_,rfl⟩
  have Htm:=Lib.hid (show∀t∈ts,0<=t/\t<=100 fromλt ht=>late_mem (by rw[hts];exact ht))
  rw[hts]
  have Hts:=Lib.hid hts
  clear hs he hr hts
  go_enter Tryz.func84,Tryz.ntmps84
  go_wp2_with fail
  refine hc.out.mono ?_
  rintro e w1⟨rfl,hb1⟩
  have hY1:=HY.out.later hb1
  have c0:=hY1.b0.cell 0
  have c1:=hY1.b0.cell 1
  have c2:=hY1.b0.lt
  have HY1:=Lib.hid hY1
  clear hb1 hY1
  go_wp2_with fail
  refine(back_any (m:Int) A rs.length c rs w1 (Hs.out.later HY1.out.bel) Hr.out).mono ?_
  rintro e w2⟨A',c',rfl,hb2,hsl⟩
  have HY2:=Lib.hid (HY1.out.later hb2)
  have Hsl:=Lib.hid hsl
  have hbl:(backP rs).length=rs.length:=by simp[backP]
  clear hb2 hsl c0 c1 c2
  go_wp2_with fail
  have hlt:=late_any (m:Int) A' rs.length c' (backP rs) w2 Hsl.out
  unfold lateV at hlt
  have hyb:yardE (m:Int) (backP rs)=0:=yard_of (by omega) (back_ok Hr.out)
  rw[hyb,if_pos rfl,show((m:Nat):Int).toNat=m by omega,Hts.out]at hlt
  refine hlt.mono ?_
  rintro e w3⟨v,rfl,hb3,hown,hlen⟩
  have hB3:=Below.later HY2.out.bel hb3
  have hown2:=own_low hown HY2.out.bel.size
  have hla:=la_bound (back_ok Hr.out) hL 101
  unfold fewV at hlen
  rw[hyb,if_pos rfl,show((m:Nat):Int).toNat=m by omega]at hlen
  have hn1:ts.length<=200000:=by omega
  have HB3:=Lib.hid hB3
  have Hown:=Lib.hid hown2
  clear hlt hb3 hown hB3 hla hlen hyb hbl
  rcases hown2.2 with⟨rfl,hn0⟩|⟨g,cap,cur,rfl,_⟩
  ·have hts0:ts=[]:=List.eq_nil_of_length_eq_zero hn0
   have HT0:=Lib.hid hts0
   clear hown2 hn0 hts0 Hown
   go_wp2_with fail
   refine(reverse_nil _).mono ?_
   rintro e w4⟨rfl,hb4⟩
   have HB4:=Lib.hid (Below.later HB3.out hb4)
   clear hb4
   go_wp2_with fail
   refine wp_loop_rounds 1 ?_
   rw[rounds_succ]
   go_wp2
   go_ret2
   exact⟨_,rfl,HB4.out,by rw[HT0.out];exact World.ownsRow_nil _ _ _ _⟩
  ·have ho:OwnN w3 w.heap.size g ts.length cap (λp=>ts.getD p 0):=by
    unfold OwnN
    rw[<-rangeM]
    exact hown2
   have HO:=Lib.hid ho
   clear hown2 ho Hown
   obtain⟨n,hn⟩:∃n,ts.length=n:=⟨_,rfl⟩
   have Hn:=Lib.hid hn
   have HR:=Lib.hid (show∀p,p<n->0<=ts.getD (n-1-p) 0/\ts.getD (n-1-p) 0<=100 fromλp hp=>by
    refine Htm.out _ ?_
    simp[List.getD,show n-1-p<ts.length by omega])
   have HV:=Lib.hid (revMap ts)
   rw[hn]at HO hn1 HV ⊢
   have HV2:=Lib.hid (show(ts.reverse.map λt=>100-t).length=n by simp;exact hn)
   clear hn
   obtain⟨R,hR⟩:∃R:Nat->Int,(λp=>ts.getD (n-1-p) 0)=R:=⟨_,rfl⟩
   have HRb:=Lib.hid (show∀p,p<n->0<=R p/\R p<=100 fromλp hp=>by rw[<-hR];exact HR.out p hp)
   have hrv:=reverse_any w.heap.size g n cap (λp=>ts.getD p 0) w3 (by omega) HO.out
   have hV3:((ts.reverse.map λt=>100-t).map (Value.int .i64))=(List.range n).map λp=>Value.int .i64 (100-R p):=by rw[HV.out,<-hR]
   rw[hR]at hrv
   have Hrv:=Lib.hid hrv
   have HV3:=Lib.hid hV3
   clear hrv hR HV HR hV3
   go_wp2_with fail
   refine Hrv.out.mono ?_
   rintro e w4⟨rfl,hb4,ho4⟩
   have HB4:=Lib.hid (HB3.out.trans hb4)
   have HO4:=Lib.hid ho4
   clear hb4 ho4 HO Hrv
   go_wp2_with fail
   refine loop_n (λq a W=>a.defers=[]/\∃i:Nat,i+q=n/\Below w.heap.size w W/\OwnN W w.heap.size g n cap (λp=>if p<i then 100-R p else R p)/\Fits (none::none::none::none::none::some (.slice (some ⟨g,0,none⟩) n cap)::none::none::none::none::none::none::none::none::none::none::none::none::none::none::none::none::some (.int .i64 (n:Nat))::some (.int .i64 (i:Nat))::none::none::none::none::none::none::none::none::none::none::none::none::[]) a.tmps.toList) n ?_ ?_
   ·refine⟨rfl,0,by omega,HB4.out,HO4.out.congr (λp _=>by simp),?_⟩
    repeat (first|exact fits_nil|refine fits_none ?_|refine fits_some ?_)
   clear HB4 HO4
   intro q a W hI K hK
   obtain⟨hds,i,hiq,hb,ho,hfit⟩:=hI
   obtain⟨f,hf⟩:=fits_act hfit
   rw[hds]at hf
   subst hf
   clear hfit hds
   simp only[fillP,Nat.reduceAdd]
   obtain⟨c2,c3,c0⟩:=ho.cells
   have hge:=ho.parts.1
   have HO:=Lib.hid ho
   have HB:=Lib.hid hb
   by_cases hlt:i<n
   ·have d0:=c0 i hlt
    simp only[Nat.lt_irrefl,if_false]at d0
    obtain⟨r0,r1⟩:=HRb.out i hlt
    have d2:=c3 i
    have i1:(i:Int)<(n:Int):=by omega
    have i2:(0:Int)<=(i:Int):=by omega
    have i3:IntKind.i64.wrap ((i:Int)+1)=(i:Int)+1:=by rw[IntKind.wrap_i64];omega
    have i4:IntKind.i64.wrap (100-R i)=100-R i:=by rw[IntKind.wrap_i64];omega
    have HS:=Lib.hid ((ho.set i (100-R i)).congr (M':=λp=>if p<i+1 then 100-R p else R p) (λp hp=>by
     unfold updN
     by_cases e:p=i
     ·subst e;simp
     ·rw[if_neg e]
      show(if p<i then 100-R p else R p)=_
      by_cases h1:p<i
      ·rw[if_pos h1,if_pos (by omega)]
      ·rw[if_neg h1,if_neg (by omega)]))
    clear hb ho c0 c3 HO
    go_wp2
    refine hK _ _ (q-1) (by omega) ⟨rfl,i+1,by omega,HB.out.setCell hge _,HS.out,?_⟩
    repeat (first|exact fits_nil|refine fits_none ?_|refine fits_some ?_)
   ·obtain rfl:i=n:=by omega
    have HE:=Lib.hid (ho.congr (M':=λp=>100-R p) (λp hp=>by rw[if_pos hp]))
    clear hK hb ho c0 c3
    go_wp2
    go_ret2
    exact⟨_,rfl,HB.out,by rw[HV2.out,HV3.out];exact HE.out⟩
 ·unfold earlyV
  rw[if_neg he]
  obtain⟨q,hq⟩:∃q,yardE L rs=q:=⟨_,rfl⟩
  rw[hq]at hc he ⊢
  have d1:(q != 0)=true:=by simpa using he
  clear hs he hq
  go_enter Tryz.func84,Tryz.ntmps84
  go_wp2_with fail
  refine hc.out.mono ?_
  rintro e w1⟨rfl,hb1⟩
  have HB:=Lib.hid (Below.later HY.out.bel hb1)
  clear hb1
  go_wp2
  go_ret2
  exact⟨_,rfl,HB.out,World.ownsRow_nil _ _ _ _⟩
end Go.Proofs.YtednconodjeniaaGreat
namespace Go.Proofs.YtednconodjeniaaGreat
open Go.RowKit Go.Shelf
theorem asg_other:∀(ps:List (Nat×Int))(H:Nat->Int)(k:Nat),(∀p∈ps,p.1≠k)->asg ps H k=H k
 |[],_,_,_=>rfl
 |p::ps,H,k,h=>by
  have h1:=asg_other ps (updN H p.1 p.2) k (λq hq=>h q (by simp[hq]))
  show asg ps (updN H p.1 p.2) k=H k
  rw[h1]
  unfold updN
  rw[if_neg (λe=>h p (by simp) e.symm)]
theorem asg_at:∀(ps:List (Nat×Int))(H:Nat->Int),(ps.map (·.1)).Nodup->∀p∈ps,asg ps H p.1=p.2
 |[],_,_,p,hp=>by simp at hp
 |q::ps,H,hn,p,hp=>by
  rw[List.map_cons,List.nodup_cons]at hn
  show asg ps (updN H q.1 q.2) p.1=p.2
  rcases List.mem_cons.1 hp with rfl|hp
  ·rw[asg_other ps _ p.1 (λr hr e=>hn.1 (by rw[<-e];exact List.mem_map.2 ⟨r,hr,rfl⟩))]
   simp[updN]
  ·exact asg_at ps _ hn.2 p hp
theorem up_nat(n L:Nat)(hL:1<=L):upI (n:Int) (L:Int)=(Fill.upN n L:Nat):=by
 unfold upI Fill.upN
 rw[show((n:Int)+(L:Int)-1)=((n+L-1:Nat):Int)by omega]
 rfl
theorem loads_nat(L:Nat)(hL:1<=L)(hs:List Int):∀t,loadsTo (L:Int) hs t=(((List.range t).map λt:Nat=>Fill.upN (hs.countP λh=>decide (h=(t:Int))) L).sum:Nat)
 |0=>rfl
 |t+1=>by
  rw[loadsTo,loads_nat L hL hs t,List.range_succ,List.map_append,List.sum_append]
  unfold cntP
  rw[up_nat _ L hL]
  simp
theorem loads_perm(L:Nat)(hL:1<=L){hs hs':List Int}(h:hs.Perm hs'):loadsP (L:Int) hs=loadsP (L:Int) hs':=by
 unfold loadsP
 rw[loads_nat L hL,loads_nat L hL]
 congr 3
 funext t
 rw[h.countP_eq]
theorem fill_hours{rs:List Rg}{L:Nat}{l:List Nat}{ts:List Int}{H:Nat->Int}(h:FillOk rs L l ts H)(hr:RsOk rs)(hL:1<=L/\L<=10):hoursE (L:Int) rs ((List.range rs.length).map H)=0/\hoursV (L:Int) rs ((List.range rs.length).map H)=LA rs L 101:=by
 have hb:∀x∈List.range rs.length,0<=loAt rs x/\loAt rs x<=hiAt rs x/\hiAt rs x<=100:=λx hx=>hr.at_ (List.mem_range.1 hx)
 have hlen:l.length=rs.length:=by rw[h.perm.length_eq,List.length_range]
 obtain⟨ps,hps⟩:∃ps,Fill.fillA (loAt rs) (hiAt rs) L rs.length l=ps:=⟨_,rfl⟩
 have hright:=Fill.fillA_right (loAt rs) (hiAt rs) L rs.length l h.srt
 have hall:=λq:Nat->Bool=>Fill.fillA_all (loAt rs) (hiAt rs) L hL.1 q rs.length l (by omega) (λx hx=>(hb x (h.perm.mem_iff.1 hx)).2.1)
 have hld:=Fill.fill_loads (loAt rs) (hiAt rs) L hL.1 (List.range rs.length) l hb h.srt (λx hx=>h.perm.mem_iff.1 hx) (λp=>h.perm.countP_eq p) rs.length (by omega)
 rw[hps]at hright hall hld
 rw[<-h.ts_eq]at hld
 have hH:=h.hrs
 rw[hps]at hH
 have hperm:(ps.map (·.1)).Perm (List.range rs.length):=by
  refine List.Perm.trans ?_ h.perm
  rw[List.perm_iff_count]
  intro a
  have h1:=hall (λx=>x==a)
  unfold List.count
  rw[List.countP_map]
  exact h1
 have hnd:(ps.map (·.1)).Nodup:=hperm.nodup_iff.2 List.nodup_range
 have hat:∀p∈ps,H p.1=p.2:=λp hp=>by rw[hH];exact asg_at ps _ hnd p hp
 have hmap:((List.range rs.length).map H).Perm (ps.map (·.2)):=by
  have h1:ps.map (·.2)=(ps.map (·.1)).map H:=by
   rw[List.map_map]
   exact List.map_congr_left λp hp=>(hat p hp).symm
  rw[h1]
  exact(hperm.map H).symm
 have hE:hoursE (L:Int) rs ((List.range rs.length).map H)=0:=by
  unfold hoursE
  rw[if_pos (yard_of (by omega) hr),if_pos (by simp),if_neg]
  intro ha
  obtain⟨p,hp,hb⟩:=List.any_eq_true.1 ha
  obtain⟨j,hj⟩:=List.getElem?_of_mem hp
  obtain⟨h1,h2⟩:=List.getElem?_zip_eq_some.1 hj
  have hjl:j<rs.length:=(List.getElem?_eq_some_iff.1 h2).1
  rw[List.getElem?_map,List.getElem?_range hjl]at h1
  simp at h1
  obtain⟨q,hq,hqj⟩:∃q∈ps,q.1=j:=by
   have:=hperm.mem_iff.2 (List.mem_range.2 hjl)
   obtain⟨q,hq,e⟩:=List.mem_map.1 this
   exact⟨q,hq,e⟩
  have h3:=hright q hq
  have h4:=hat q hq
  rw[hqj]at h3 h4
  rw[loAt_eq h2,hiAt_eq h2]at h3
  unfold wrongB at hb
  rw[Bool.not_eq_true',inR_no]at hb
  rw[<-h1]at hb
  omega
 refine⟨hE,?_⟩
 unfold hoursV
 rw[hE,if_pos rfl,loads_perm L hL.1 hmap]
 have h5:=(fill_late h hr hL.1).2
 rw[<-h5,<-hld]
 unfold loadsP Fill.loadsN
 exact loads_nat L hL.1 _ 101
theorem chain_proof{rs:List Rg}{L:Nat}{ws:List Rg}(hr:RsOk rs)(hL:1<=L/\L<=10)(c:ChainOk rs (L:Int) 101 ws (LA rs L 101)):(ws.length<=10/\proofE (L:Int) rs ws=0)/\proofV (L:Int) rs ws=LA rs L 101:=by
 have hwl:ws.length<=10:=by
  have h1:=chain_len (rs:=rs) (L:=(L:Int)) (by omega) (λx hx=>(hr.2 x hx).2.1) ws (λr hr=>(c.win r hr).2) c.pw
  have h2:=List.countP_le_length (p:=λx=>ws.any λr=>inWd r x) (l:=rs)
  have h3:=hr.1
  omega
 have hw:∀r∈ws,0<=r.lo/\r.lo<=r.hi/\r.hi<=100:=λr h=>wins_small hr (c.win r h).1
 have hsep:∀(l:List Rg)(e:Int),l.Pairwise (λa b=>a.hi<b.lo)->(∀r∈l,e<r.lo)->sepB e l=true:=by
  intro l
  induction l with
  |nil=>intro e _ _;rfl
  |cons r l ih=>
   intro e hp he
   rw[List.pairwise_cons]at hp
   show(decide (e<r.lo)&&sepB r.hi l)=true
   rw[ih r.hi hp.2 hp.1,Bool.and_true,decide_eq_true_eq]
   exact he r (by simp)
 have hE:proofE (L:Int) rs ws=0:=by
  unfold proofE
  rw[if_pos (yard_of (by omega) hr),if_neg (by omega),if_neg,if_pos (hsep ws (-1) c.pw (λr h=>by have:=hw r h;omega))]
  intro ha
  obtain⟨x,hx,hb⟩:=List.any_eq_true.1 ha
  have h1:=hw x hx
  unfold badR at hb
  have h2:winB x=true:=by rw[win_alt];simp;omega
  rw[h2]at hb
  cases hb
 exact⟨⟨hwl,hE⟩,by unfold proofV;rw[hE,if_pos rfl,<-c.sum]⟩
end Go.Proofs.YtednconodjeniaaGreat
namespace Go.Proofs.YtednconodjeniaaGreat
open Go.RowKit Go.Shelf
theorem la_chain{rs:List Rg}{L:Nat}(hr:RsOk rs)(hL:1<=L):∃v:Nat,LA rs L 101=v/\Fill.Chain Rg.lo Rg.hi L rs 100 v/\∀u,Fill.Chain Rg.lo Rg.hi L rs 100 u->u<=v:=by
 obtain⟨l,hl⟩:∃l,rs.mergeSort (λa b=>decide (a.hi<=b.hi))=l:=⟨_,rfl⟩
 have hp:l.Perm rs:=hl▸List.mergeSort_perm rs _
 have hs:l.Pairwise (λa b=>a.hi<=b.hi):=by
  have h:=List.pairwise_mergeSort (le:=λa b:Rg=>decide (a.hi<=b.hi)) (λa b c h1 h2=>by simp at*;omega) (λa b=>by simp;omega) rs
  rw[hl]at h
  exact h.imp λh=>by simpa using h
 have h1:=Fill.least_fill Rg.lo Rg.hi L hL rs l (λx hx=>(hr.2 x hx).1) (λx hx=>(hr.2 x hx).2.1) hs (λx hx=>hp.mem_iff.1 hx) (λp=>hp.countP_eq p) rs.length (by rw[hp.length_eq];exact Nat.le_refl _) 101 101 (Nat.le_refl _)
 have h2:=Fill.fill_max Rg.lo Rg.hi L hL rs l (λx hx=>(hr.2 x hx).2.1) hs (λx hx=>hp.mem_iff.1 hx) (λp=>hp.countP_eq p) rs.length (by rw[hp.length_eq];exact Nat.le_refl _) 100
 rw[least_low rs L 101 101 (Nat.le_refl _)]at h1
 exact⟨_,h1,h2.1,h2.2⟩
theorem hours_least{rs:List Rg}{L:Nat}{hs:List Int}(hr:RsOk rs)(hL:1<=L)(hlen:hs.length=rs.length)(hok:(hs.zip rs).any wrongB=false):LA rs L 101<=loadsP (L:Int) hs:=by
 obtain⟨v,hv,hc,_⟩:=la_chain hr hL
 have hf:(rs.zip hs).map (·.1)=rs:=List.map_fst_zip (by omega)
 have hsn:(rs.zip hs).map (·.2)=hs:=List.map_snd_zip (by omega)
 have h1:=Fill.hours_chain Rg.lo Rg.hi L hL rs (rs.zip hs) (λp hp=>by
  obtain⟨j,hj⟩:=List.getElem?_of_mem hp
  obtain⟨h1,h2⟩:=List.getElem?_zip_eq_some.1 hj
  have h3:=hr.2 p.1 (List.mem_of_getElem? h1)
  have h4:(p.2,p.1)∈hs.zip rs:=List.mem_of_getElem? (List.getElem?_zip_eq_some.2 ⟨h2,h1⟩:(hs.zip rs)[j]? =some (p.2,p.1))
  have h5:=List.any_eq_false.1 hok _ h4
  unfold wrongB at h5
  rw[Bool.not_eq_true,Bool.not_eq_false',inR_iff]at h5
  simp only at h5
  exact⟨h5,by omega,by omega⟩) (λq=>by
  conv=>lhs;rw[<-hf]
  rw[List.countP_map];rfl) hc
 rw[hsn]at h1
 have h2:loadsP (L:Int) hs=(Fill.loadsN L hs:Nat):=by
  unfold loadsP Fill.loadsN
  exact loads_nat L hL _ 101
 rw[hv,h2]
 exact_mod_cast h1
theorem need_nonneg(rs:List Rg)(L:Nat)(hL:1<=L)(r:Rg):0<=needP (L:Int) rs r:=by
 rw[<-need_eq]
 exact(Fill.count_need Rg.lo Rg.hi L hL rs r.lo r.hi).1
theorem sep_chain{rs:List Rg}{L:Nat}(hr:RsOk rs)(hL:1<=L):∀(ws:List Rg)(e:Int)(v:Nat),e<=100->(∀r∈ws,r.lo<=r.hi/\r.hi<=100)->sepB e ws=true->Fill.Chain Rg.lo Rg.hi L rs e v->∃u:Nat,(u:Int)=(v:Int)+(ws.map (needP (L:Int) rs)).sum/\Fill.Chain Rg.lo Rg.hi L rs 100 u
 |[],e,v,he,_,_,hc=>⟨v,by simp,hc.mono Rg.lo Rg.hi he⟩
 |r::ws,e,v,he,hw,hs,hc=>by
  obtain⟨hr1,hr2⟩:=hw r (by simp)
  simp only[sepB,Bool.and_eq_true,decide_eq_true_eq]at hs
  have hc1:Fill.Chain Rg.lo Rg.hi L rs (r.lo-1) v:=hc.mono Rg.lo Rg.hi (by omega)
  have hcn:=Fill.count_need Rg.lo Rg.hi L hL rs r.lo r.hi
  rw[need_eq]at hcn
  obtain⟨q,hq⟩:∃q:Nat,needP (L:Int) rs r=q:=⟨(needP (L:Int) rs r).toNat,by have:=hcn.1;omega⟩
  rw[hq,Int.toNat_natCast]at hcn
  have hgo:Fill.Chain Rg.lo Rg.hi L rs r.hi (v+q):=by
   cases q with
   |zero=>exact hc1.mono Rg.lo Rg.hi (by omega)
   |succ m=>
    have hpos:1<=rs.countP (Fill.inW Rg.lo Rg.hi (r.lo-1) r.hi):=by
     rcases Nat.eq_zero_or_pos (rs.countP (Fill.inW Rg.lo Rg.hi (r.lo-1) r.hi))with h0|h0
     ·exfalso
      have e1:rs.countP (inWd r)=0:=by
       rw[<-h0]
       congr 1
       funext x
       unfold inWd Fill.inW
       congr 1
       exact decide_eq_decide.2 (by omega)
      have e2:needP (L:Int) rs r=0:=by
       unfold needP upI
       rw[e1]
       exact Int.ediv_eq_zero_of_lt (by omega) (by omega)
      omega
     ·exact h0
    have h2:=hcn.2 hpos
    rw[Nat.add_sub_cancel]at h2
    obtain⟨x0,hx0,hp0⟩:=List.countP_pos_iff.1 hpos
    obtain⟨x,hx,hpx,hmax⟩:=Fill.least_lo (λy:Rg=>-y.hi) (Fill.inW Rg.lo Rg.hi (r.lo-1) r.hi) rs x0 hx0 hp0
    obtain⟨a1,a2⟩:=(Fill.inW_iff Rg.lo Rg.hi).1 hpx
    refine(Fill.Chain.more Rg.lo Rg.hi (λy hy=>(hr.2 y hy).2.1) hc1 hx a1 rfl (Nat.le_trans h2 (List.countP_mono_left λz hz hp=>?_))).mono Rg.lo Rg.hi a2
    have h3:=hmax z hz hp
    obtain⟨b1,b2⟩:=(Fill.inW_iff Rg.lo Rg.hi).1 hp
    exact(Fill.inW_iff Rg.lo Rg.hi).2 ⟨b1,by omega⟩
  obtain⟨u,hu,huc⟩:=sep_chain hr hL ws r.hi (v+q) hr2 (λy hy=>hw y (by simp[hy])) hs.2 hgo
  refine⟨u,?_,huc⟩
  rw[hu,List.map_cons,List.sum_cons,hq]
  omega
theorem proof_least{rs:List Rg}{L:Nat}{ws:List Rg}(hr:RsOk rs)(hL:1<=L/\L<=10)(he:proofE (L:Int) rs ws=0):0<=proofV (L:Int) rs ws/\proofV (L:Int) rs ws<=LA rs L 101:=by
 unfold proofV
 rw[if_pos he]
 unfold proofE at he
 rw[if_pos (yard_of (by omega) hr)]at he
 have h0:∀l:List Rg,0<=(l.map (needP (L:Int) rs)).sum:=λl=>by
  induction l with
  |nil=>simp
  |cons a l ih=>rw[List.map_cons,List.sum_cons];have:=need_nonneg rs L hL.1 a;omega
 refine⟨h0 ws,?_⟩
 split at he
 ·cases he
 split at he
 ·cases he
 rename_i h1 h2
 split at he
 ·rename_i h3
  obtain⟨v,hv,_,hm⟩:=la_chain hr hL.1
  obtain⟨u,hu,hc⟩:=sep_chain hr hL.1 ws (-1) 0 (by omega) (λr hrr=>by
   have h4:badR r=false:=by
    cases hb:badR r with
    |false=>rfl
    |true=>exact absurd (List.any_eq_true.2 ⟨r,hrr,hb⟩) h2
   unfold badR at h4
   rw[Bool.not_eq_false',win_alt]at h4
   simp at h4
   omega) h3 (.nil _)
  have h5:=hm u hc
  rw[hv]
  omega
 ·cases he
theorem proof_err{rs:List Rg}{L:Int}{ws:List Rg}(hy:yardE L rs=0)(hw:ws.length<=10):proofE L rs ws=0\/proofE L rs ws=3\/proofE L rs ws=16:=by
 unfold proofE
 rw[if_pos hy,if_neg (by omega)]
 split
 ·exact .inr (.inl rfl)
 ·split
  ·exact .inl rfl
  ·exact .inr (.inr rfl)
end Go.Proofs.YtednconodjeniaaGreat
namespace Go.Proofs.YtednconodjeniaaGreat
open Go.RowKit Go.Shelf
theorem sorted_of(rs:List Rg):∃l:List Rg,l.Perm rs/\l.Pairwise (λa b=>a.hi<=b.hi):=by
 refine⟨rs.mergeSort (λa b=>decide (a.hi<=b.hi)),List.mergeSort_perm rs _,?_⟩
 have h:=List.pairwise_mergeSort (le:=λa b:Rg=>decide (a.hi<=b.hi)) (λa b c h1 h2=>by simp at*;omega) (λa b=>by simp;omega) rs
 exact h.imp λh=>by simpa using h
theorem la_at{rs:List Rg}{L:Nat}(hr:RsOk rs)(hL:1<=L)(h:Nat):∃v:Nat,LA rs L h=v/\Fill.Chain Rg.lo Rg.hi L rs ((h:Int)-1) v/\∀u,Fill.Chain Rg.lo Rg.hi L rs ((h:Int)-1) u->u<=v:=by
 obtain⟨l,hp,hs⟩:=sorted_of rs
 have h1:=Fill.least_fill Rg.lo Rg.hi L hL rs l (λx hx=>(hr.2 x hx).1) (λx hx=>(hr.2 x hx).2.1) hs (λx hx=>hp.mem_iff.1 hx) (λp=>hp.countP_eq p) rs.length (by rw[hp.length_eq];exact Nat.le_refl _) h h (Nat.le_refl _)
 have h2:=Fill.fill_max Rg.lo Rg.hi L hL rs l (λx hx=>(hr.2 x hx).2.1) hs (λx hx=>hp.mem_iff.1 hx) (λp=>hp.countP_eq p) rs.length (by rw[hp.length_eq];exact Nat.le_refl _) ((h:Int)-1)
 rw[least_low rs L h h (Nat.le_refl _)]at h1
 exact⟨_,h1,h2.1,h2.2⟩
theorem la_le{rs rs':List Rg}{L L' h h':Nat}(hr:RsOk rs)(hr':RsOk rs')(hL:1<=L)(hL':1<=L')(H:∀v,Fill.Chain Rg.lo Rg.hi L rs ((h:Int)-1) v->Fill.Chain Rg.lo Rg.hi L' rs' ((h':Int)-1) v):LA rs L h<=LA rs' L' h':=by
 obtain⟨v,e1,c1,_⟩:=la_at hr hL h
 obtain⟨v',e2,_,m2⟩:=la_at hr' hL' h'
 rw[e1,e2]
 exact_mod_cast m2 v (H v c1)
theorem chain_sub{L:Nat}{rs rs':List Rg}(hm:∀x∈rs,x∈rs')(hc:∀p,rs.countP p<=rs'.countP p){h:Int}{v:Nat}(c:Fill.Chain Rg.lo Rg.hi L rs h v):Fill.Chain Rg.lo Rg.hi L rs' h v:=by
 induction c with
 |nil h=>exact .nil h
 |cons h v n x y hx hy h1 h2 _ h4 ih=>exact .cons h v n x y (hm x hx) (hm y hy) h1 h2 ih (Nat.le_trans h4 (hc _))
theorem la_sublist{rs rs':List Rg}{L:Nat}(hs:rs.Sublist rs')(hr':RsOk rs')(hL:1<=L)(h:Nat):LA rs L h<=LA rs' L h:=
 la_le ⟨Nat.le_trans hs.length_le hr'.1,λx hx=>hr'.2 x (hs.subset hx)⟩ hr' hL hL λ_ c=>chain_sub (λ_ hx=>hs.subset hx) (λ_=>hs.countP_le) c
theorem rs_perm{rs rs':List Rg}(hp:rs.Perm rs')(hr:RsOk rs):RsOk rs':=⟨by rw[<-hp.length_eq];exact hr.1,λx hx=>hr.2 x (hp.mem_iff.2 hx)⟩
theorem la_perm{rs rs':List Rg}{L:Nat}(hp:rs.Perm rs')(hr:RsOk rs)(hL:1<=L)(h:Nat):LA rs L h=LA rs' L h:=
 Int.le_antisymm (la_le hr (rs_perm hp hr) hL hL λ_ c=>chain_sub (λ_ hx=>hp.mem_iff.1 hx) (λp=>by rw[hp.countP_eq];exact Nat.le_refl _) c)
  (la_le (rs_perm hp hr) hr hL hL λ_ c=>chain_sub (λ_ hx=>hp.mem_iff.2 hx) (λp=>by rw[hp.countP_eq];exact Nat.le_refl _) c)
def lateOf(rs:List Rg)(L:Nat):List Int:=Fill.lateP (LA rs L) 101
theorem late_greedy{rs l:List Rg}{L:Nat}(hr:RsOk rs)(hL:1<=L)(hp:l.Perm rs)(hs:l.Pairwise (λa b=>a.hi<=b.hi))(f:Nat)(hf:l.length<=f):lateOf rs L=Fill.fillL Rg.lo Rg.hi L f l:=by
 have h1:=Fill.late_fill Rg.lo Rg.hi L hL rs l hr.2 hs (λx hx=>hp.mem_iff.1 hx) (λp=>hp.countP_eq p) f hf
 rw[<-h1]
 exact(late_congr 101 λj hj=>least_low rs L 101 j hj).symm
theorem late_len{rs:List Rg}{L:Nat}(hr:RsOk rs)(hL:1<=L):((lateOf rs L).length:Int)=LA rs L 101:=by
 obtain⟨l,hp,hs⟩:=sorted_of rs
 have hle:l.length<=rs.length:=by rw[hp.length_eq];exact Nat.le_refl _
 have h2:=Fill.least_fill Rg.lo Rg.hi L hL rs l (λx hx=>(hr.2 x hx).1) (λx hx=>(hr.2 x hx).2.1) hs (λx hx=>hp.mem_iff.1 hx) (λp=>hp.countP_eq p) rs.length hle 101 101 (Nat.le_refl _)
 rw[least_low rs L 101 101 (Nat.le_refl _)]at h2
 rw[h2,late_greedy hr hL hp hs rs.length hle]
 congr 1
 symm
 rw[List.countP_eq_length]
 intro t ht
 obtain⟨x,hx,rfl⟩:=Fill.fillL_mem Rg.lo Rg.hi L rs.length l t ht
 have:=hr.2 x (hp.mem_iff.1 hx)
 simp;omega
theorem late_sorted{rs:List Rg}{L:Nat}(hr:RsOk rs)(hL:1<=L):(lateOf rs L).Pairwise (· <= ·):=by
 obtain⟨l,hp,hs⟩:=sorted_of rs
 rw[late_greedy hr hL hp hs l.length (Nat.le_refl _)]
 exact Fill.fillL_sorted Rg.lo Rg.hi L _ l hs
theorem late_range{rs:List Rg}{L:Nat}(hr:RsOk rs)(hL:1<=L):∀t∈lateOf rs L,0<=t/\t<=100:=by
 obtain⟨l,hp,hs⟩:=sorted_of rs
 rw[late_greedy hr hL hp hs l.length (Nat.le_refl _)]
 intro t ht
 obtain⟨x,hx,rfl⟩:=Fill.fillL_mem Rg.lo Rg.hi L _ l t ht
 have:=hr.2 x (hp.mem_iff.1 hx)
 omega
def laterR(d:Int)(r:Rg):Rg:=⟨r.lo+d,r.hi+d⟩
theorem takeL_later(d t:Int):∀(l:List Rg)(n:Nat),Fill.takeL Rg.lo (t+d) n (l.map (laterR d))=((Fill.takeL Rg.lo t n l).1.map (laterR d),(Fill.takeL Rg.lo t n l).2.map (laterR d))
 |[],n=>by cases n<;>rfl
 |x::l,0=>rfl
 |x::l,n+1=>by
  rw[List.map_cons]
  unfold Fill.takeL
  have e:(t+d<(laterR d x).lo)↔t<x.lo:=by unfold laterR;simp only;omega
  by_cases h:t<x.lo
  ·rw[if_pos (e.2 h),if_pos h,takeL_later d t l (n+1)]
   rfl
  ·rw[if_neg (λh'=>h (e.1 h')),if_neg h,takeL_later d t l n]
   rfl
theorem fillL_later(d:Int)(L:Nat):∀(f:Nat)(l:List Rg),Fill.fillL Rg.lo Rg.hi L f (l.map (laterR d))=(Fill.fillL Rg.lo Rg.hi L f l).map (· +d)
 |0,l=>by simp[Fill.fillL]
 |f+1,[]=>by simp[Fill.fillL]
 |f+1,x::l=>by
  rw[List.map_cons]
  unfold Fill.fillL
  have e:=takeL_later d x.hi (x::l) L
  rw[List.map_cons]at e
  rw[show(laterR d x).hi=x.hi+d from rfl,e,fillL_later d L f]
  rfl
theorem late_later{rs:List Rg}{L:Nat}(d:Int)(hr:RsOk rs)(hr':RsOk (rs.map (laterR d)))(hL:1<=L):lateOf (rs.map (laterR d)) L=(lateOf rs L).map (· +d):=by
 obtain⟨l,hp,hs⟩:=sorted_of rs
 rw[late_greedy hr hL hp hs l.length (Nat.le_refl _),late_greedy hr' hL (hp.map _) (by rw[List.pairwise_map];exact hs.imp λh=>by unfold laterR;simp only;omega) l.length (by simp)]
 exact fillL_later d L l.length l
theorem back_later(d:Int)(rs:List Rg):backP (rs.map (laterR d))=(backP rs).map (laterR (-d)):=by
 unfold backP
 rw[List.map_map,List.map_map]
 refine List.map_congr_left λr _=>?_
 simp only[Function.comp,backR,laterR,Rg.mk.injEq]
 omega
def earlyOf(rs:List Rg)(L:Nat):List Int:=(lateOf (backP rs) L).reverse.map λt=>100-t
theorem early_later{rs:List Rg}{L:Nat}(d:Int)(hr:RsOk rs)(hr':RsOk (rs.map (laterR d)))(hL:1<=L):earlyOf (rs.map (laterR d)) L=(earlyOf rs L).map (· +d):=by
 unfold earlyOf
 have h2:=back_ok hr'
 rw[back_later]at h2 ⊢
 rw[late_later (-d) (back_ok hr) h2 hL,<-List.map_reverse,List.map_map,List.map_map]
 refine List.map_congr_left λt _=>?_
 simp only[Function.comp]
 omega
theorem takeL_app(t:Int)(m:List Rg)(hm:∀y∈m,t<y.lo):∀(l:List Rg)(n:Nat),Fill.takeL Rg.lo t n (l++m)=((Fill.takeL Rg.lo t n l).1,(Fill.takeL Rg.lo t n l).2++m)
 |[],n=>by
  rw[List.nil_append]
  induction m generalizing n with
  |nil=>cases n<;>rfl
  |cons y m ih=>
   cases n with
   |zero=>rfl
   |succ n=>
    have h:=ih (λz hz=>hm z (by simp[hz])) (n+1)
    unfold Fill.takeL
    rw[if_pos (hm y (by simp)),h]
    rfl
 |x::l,0=>rfl
 |x::l,n+1=>by
  rw[List.cons_append]
  unfold Fill.takeL
  by_cases h:t<x.lo
  ·rw[if_pos h,if_pos h,takeL_app t m hm l (n+1)]
   rfl
  ·rw[if_neg h,if_neg h,takeL_app t m hm l n]
theorem takeL_left_len(t:Int)(x:Rg)(l:List Rg)(L:Nat)(hL:1<=L)(hx:x.lo<=t):(Fill.takeL Rg.lo t L (x::l)).2.length<=l.length:=by
 obtain⟨k,rfl⟩:∃k,L=k+1:=⟨L-1,by omega⟩
 unfold Fill.takeL
 rw[if_neg (by omega)]
 exact(Fill.takeL_sub Rg.lo t l k).length_le
theorem fillL_nil(L f:Nat):Fill.fillL Rg.lo Rg.hi L f []=[]:=by cases f<;>rfl
theorem fillL_fuel(L:Nat)(hL:1<=L):∀(f g:Nat)(l:List Rg),(∀x∈l,x.lo<=x.hi)->l.length<=f->l.length<=g->Fill.fillL Rg.lo Rg.hi L f l=Fill.fillL Rg.lo Rg.hi L g l
 |f,g,[],_,_,_=>by rw[fillL_nil,fillL_nil]
 |0,g,x::l,_,h,_=>by simp at h
 |f+1,0,x::l,_,_,h=>by simp at h
 |f+1,g+1,x::l,hx,hf,hg=>by
  unfold Fill.fillL
  have h1:=takeL_left_len x.hi x l L hL (hx x (by simp))
  simp only[List.length_cons]at hf hg
  rw[fillL_fuel L hL f g _ (λy hy=>hx y ((Fill.takeL_sub Rg.lo x.hi (x::l) L).subset hy)) (by omega) (by omega)]
theorem fillL_app(L:Nat)(hL:1<=L)(m:List Rg)(hm1:∀y∈m,y.lo<=y.hi):∀(f:Nat)(l:List Rg),(∀x∈l,x.lo<=x.hi)->(∀x∈l,∀y∈m,x.hi<y.lo)->(l++m).length<=f->Fill.fillL Rg.lo Rg.hi L f (l++m)=Fill.fillL Rg.lo Rg.hi L f l++Fill.fillL Rg.lo Rg.hi L f m
 |f,[],_,_,_=>by rw[List.nil_append,fillL_nil,List.nil_append]
 |0,x::l,_,_,h=>by simp at h
 |f+1,x::l,hx,hxm,hf=>by
  have e:=takeL_app x.hi m (λy hy=>hxm x (by simp) y hy) (x::l) L
  have h1:=takeL_left_len x.hi x l L hL (hx x (by simp))
  rw[List.cons_append]at e
  have hsub:=(Fill.takeL_sub Rg.lo x.hi (x::l) L).subset
  simp only[List.length_append,List.length_cons]at hf
  have e1:Fill.fillL Rg.lo Rg.hi L (f+1) (x::(l++m))=x.hi::Fill.fillL Rg.lo Rg.hi L f (Fill.takeL Rg.lo x.hi L (x::(l++m))).2:=rfl
  have e2:Fill.fillL Rg.lo Rg.hi L (f+1) (x::l)=x.hi::Fill.fillL Rg.lo Rg.hi L f (Fill.takeL Rg.lo x.hi L (x::l)).2:=rfl
  rw[List.cons_append,e1,e2,e,fillL_app L hL m hm1 f _ (λy hy=>hx y (hsub hy)) (λy hy=>hxm y (hsub hy)) (by rw[List.length_append];omega),List.cons_append,fillL_fuel L hL f (f+1) m hm1 (by omega) (by omega)]
theorem late_apart{a b rs:List Rg}{L:Nat}(hp:rs.Perm (a++b))(hr:RsOk rs)(hL:1<=L)(hab:∀x∈a,∀y∈b,x.hi<y.lo):lateOf rs L=lateOf a L++lateOf b L:=by
 have hr2:=rs_perm hp hr
 have hra:RsOk a:=⟨Nat.le_trans (List.sublist_append_left a b).length_le hr2.1,λx hx=>hr2.2 x (by simp[hx])⟩
 have hrb:RsOk b:=⟨Nat.le_trans (List.sublist_append_right a b).length_le hr2.1,λx hx=>hr2.2 x (by simp[hx])⟩
 obtain⟨la,pa,sa⟩:=sorted_of a
 obtain⟨lb,pb,sb⟩:=sorted_of b
 have hl:la.length<=(la++lb).length:=by simp
 have hl2:lb.length<=(la++lb).length:=by simp
 have hmid:∀x∈la,∀y∈lb,x.hi<y.lo:=λx hx y hy=>hab x (pa.mem_iff.1 hx) y (pb.mem_iff.1 hy)
 rw[late_greedy hra hL pa sa _ hl,late_greedy hrb hL pb sb _ hl2,late_greedy (l:=la++lb) hr hL ((pa.append pb).trans hp.symm) (by
  rw[List.pairwise_append]
  refine⟨sa,sb,λx hx y hy=>?_⟩
  have h1:=hmid x hx y hy
  have h2:=(hrb.2 y (pb.mem_iff.1 hy)).2.1
  omega) _ (Nat.le_refl _)]
 exact fillL_app L hL lb (λy hy=>(hrb.2 y (pb.mem_iff.1 hy)).2.1) _ la (λx hx=>(hra.2 x (pa.mem_iff.1 hx)).2.1) hmid (Nat.le_refl _)
theorem early_apart{a b:List Rg}{L:Nat}(hr:RsOk (a++b))(hL:1<=L)(hab:∀x∈a,∀y∈b,x.hi<y.lo):earlyOf (a++b) L=earlyOf a L++earlyOf b L:=by
 unfold earlyOf
 have h:=late_apart (a:=backP b) (b:=backP a) (rs:=backP (a++b)) (L:=L) (by unfold backP;rw[List.map_append];exact List.perm_append_comm) (back_ok hr) hL (λx hx y hy=>by
  unfold backP at hx hy
  obtain⟨x',hx',rfl⟩:=List.mem_map.1 hx
  obtain⟨y',hy',rfl⟩:=List.mem_map.1 hy
  have:=hab y' hy' x' hx'
  unfold backR
  simp only
  omega)
 rw[h,List.reverse_append,List.map_append]
theorem la_apart{a b:List Rg}{L:Nat}(hr:RsOk (a++b))(hL:1<=L)(hab:∀x∈a,∀y∈b,x.hi<y.lo):LA (a++b) L 101=LA a L 101+LA b L 101:=by
 have hra:RsOk a:=⟨Nat.le_trans (List.sublist_append_left a b).length_le hr.1,λx hx=>hr.2 x (by simp[hx])⟩
 have hrb:RsOk b:=⟨Nat.le_trans (List.sublist_append_right a b).length_le hr.1,λx hx=>hr.2 x (by simp[hx])⟩
 rw[<-late_len hr hL,<-late_len hra hL,<-late_len hrb hL,late_apart (List.Perm.refl _) hr hL hab,List.length_append]
 omega
end Go.Proofs.YtednconodjeniaaGreat
namespace Go.Proofs.YtednconodjeniaaGreat
open Go.RowKit Go.Shelf
theorem hours_of{L:Int}{rs:List Rg}{hh:List Int}(h1:hoursE L rs hh=0):hh.length=rs.length/\(hh.zip rs).any wrongB=false/\hoursV L rs hh=loadsP L hh:=by
 have hv:hoursV L rs hh=loadsP L hh:=by unfold hoursV;rw[if_pos h1]
 have h0:=h1
 unfold hoursE at h0
 by_cases hy:yardE L rs=0
 ·rw[if_pos hy]at h0
  by_cases hl:hh.length=rs.length
  ·rw[if_pos hl]at h0
   cases ha:(hh.zip rs).any wrongB with
   |true=>rw[ha]at h0;cases h0
   |false=>exact⟨hl,rfl,hv⟩
  ·rw[if_neg hl]at h0;cases h0
 ·rw[if_neg hy]at h0;exact absurd h0 hy
theorem hours_in{rs:List Rg}{hh:List Int}(ha:(hh.zip rs).any wrongB=false):∀(i:Nat)(h:Int)(r:Rg),hh[i]? =some h->rs[i]? =some r->r.lo<=h/\h<=r.hi:=λi h r h1 h2=>by
 have h4:(h,r)∈hh.zip rs:=List.mem_of_getElem? (List.getElem?_zip_eq_some.2 ⟨h1,h2⟩)
 have h5:=List.any_eq_false.1 ha _ h4
 unfold wrongB at h5
 rw[Bool.not_eq_true,Bool.not_eq_false',inR_iff]at h5
 exact h5
theorem in_hours{rs:List Rg}{hh:List Int}(H:∀(i:Nat)(h:Int)(r:Rg),hh[i]? =some h->rs[i]? =some r->r.lo<=h/\h<=r.hi):(hh.zip rs).any wrongB=false:=by
 rw[List.any_eq_false]
 intro p hp
 obtain⟨j,hj⟩:=List.getElem?_of_mem hp
 obtain⟨h1,h2⟩:=List.getElem?_zip_eq_some.1 hj
 have h3:=H j _ _ h1 h2
 unfold wrongB
 rw[Bool.not_eq_true,Bool.not_eq_false',inR_iff]
 exact h3
theorem hours_range{rs:List Rg}{hh:List Int}(hr:RsOk rs)(hl:hh.length=rs.length)(ha:(hh.zip rs).any wrongB=false):∀h∈hh,0<=h/\h<=100:=λh hm=>by
 obtain⟨i,hi⟩:=List.getElem?_of_mem hm
 have hil:=(List.getElem?_eq_some_iff.1 hi).1
 have h1:rs[i]? =some rs[i]:=List.getElem?_eq_getElem (by omega)
 have h2:=hours_in ha i h _ hi h1
 have h3:=hr.2 _ (List.mem_of_getElem? h1)
 omega
theorem loadsP_nat(L:Nat)(hL:1<=L)(hs:List Int):loadsP (L:Int) hs=(Fill.loadsN L hs:Nat):=by
 unfold loadsP Fill.loadsN
 exact loads_nat L hL _ 101
theorem upN_succ(n L:Nat)(hL:1<=L):Fill.upN (n+1) L<=Fill.upN n L+1:=by
 unfold Fill.upN
 rw[<-Nat.add_div_right _ (show 0<L by omega)]
 exact Nat.div_le_div_right (by omega)
theorem upN_zero(L:Nat):Fill.upN 0 L=0:=by
 unfold Fill.upN
 cases L with
 |zero=>rfl
 |succ k=>exact Nat.div_eq_of_lt (by omega)
theorem upN_room2(n L:Nat)(hL:1<=L):Fill.upN n (L+1)<=Fill.upN n L:=by
 have h:=Fill.upN_room n L hL
 generalize Fill.upN n L=k at h
 unfold Fill.upN
 apply Nat.le_of_lt_succ
 rw[Nat.div_lt_iff_lt_mul (by omega),Nat.succ_mul,Nat.mul_succ]
 omega
theorem upN_one(n:Nat):Fill.upN n 1=n:=by unfold Fill.upN;simp
theorem loads_snoc(L:Nat)(hL:1<=L)(hs:List Int)(h:Int):Fill.loadsN L (hs++[h])<=Fill.loadsN L hs+1:=by
 unfold Fill.loadsN
 have h1:=Fill.nsum_ind h (List.range 101) List.nodup_range
 have h2:=Fill.nsum_le (λt:Nat=>Fill.upN ((hs++[h]).countP λh=>decide (h=(t:Int))) L) (λt:Nat=>Fill.upN (hs.countP λh=>decide (h=(t:Int))) L+if h=(t:Int)then 1 else 0) (List.range 101) λt _=>by
  rw[List.countP_append,List.countP_cons,List.countP_nil]
  by_cases e:h=(t:Int)
  ·rw[if_pos e]
   simp only[e,decide_true,if_true,Nat.zero_add]
   exact upN_succ _ L hL
  ·simp[e]
 rw[Fill.nsum_add]at h2
 omega
theorem loads_room(L:Nat)(hL:1<=L)(hs:List Int):Fill.loadsN (L+1) hs<=Fill.loadsN L hs:=Fill.nsum_le _ _ _ λ_ _=>upN_room2 _ L hL
theorem range_back(n:Nat):((List.range n).map λt=>n-1-t)=(List.range n).reverse:=by
 apply List.ext_getElem
 ·simp
 ·intro i h1 h2
  simp
theorem loads_back(L:Nat){hs:List Int}:Fill.loadsN L (hs.map λh=>100-h)=Fill.loadsN L hs:=by
 unfold Fill.loadsN
 have h1:((List.range 101).map λt:Nat=>Fill.upN ((hs.map λh=>100-h).countP λh=>decide (h=(t:Int))) L)=((List.range 101).map λt=>101-1-t).map λt:Nat=>Fill.upN (hs.countP λh=>decide (h=(t:Int))) L:=by
  rw[List.map_map]
  refine List.map_congr_left λt ht=>?_
  have ht':=List.mem_range.1 ht
  rw[List.countP_map]
  show Fill.upN _ L=Fill.upN _ L
  congr 1
  refine List.countP_congr λh _=>?_
  simp only[Function.comp,decide_eq_true_eq]
  omega
 rw[h1,range_back,List.map_reverse]
 exact(List.reverse_perm _).sum_nat
theorem la_more{rs:List Rg}{L:Nat}{r:Rg}{hh:List Int}(hr:RsOk (rs++[r]))(hL:1<=L)(hl:hh.length=rs.length)(ha:(hh.zip rs).any wrongB=false)(hv:loadsP (L:Int) hh=LA rs L 101):LA rs L 101<=LA (rs++[r]) L 101/\LA (rs++[r]) L 101<=LA rs L 101+1:=by
 refine⟨la_sublist (List.sublist_append_left _ _) hr hL 101,?_⟩
 have h1:=hours_least (hs:=hh++[r.lo]) hr hL (by simp[hl]) (by
  rw[List.zip_append hl,List.any_append,ha]
  have:=hr.2 r (by simp)
  simp[wrongB,inR]
  omega)
 rw[loadsP_nat L hL]at h1 hv
 have h2:=loads_snoc L hL hh r.lo
 omega
theorem la_room{rs:List Rg}{L:Nat}{hh:List Int}(hr:RsOk rs)(hL:1<=L)(hl:hh.length=rs.length)(ha:(hh.zip rs).any wrongB=false)(hv:loadsP (L:Int) hh=LA rs L 101):LA rs (L+1) 101<=LA rs L 101:=by
 have h1:=hours_least (L:=L+1) (hs:=hh) hr (by omega) hl ha
 rw[loadsP_nat (L+1) (by omega)]at h1
 rw[loadsP_nat L hL]at hv
 have h2:=loads_room L hL hh
 omega
theorem la_wider{rs:List Rg}{L i:Nat}{r z:Rg}{hh:List Int}(hr:RsOk (rs.set i z))(hL:1<=L)(hx:rs[i]? =some r) (h1:z.lo<=r.lo) (h2:r.hi<=z.hi) (hl:hh.length=rs.length) (ha:(hh.zip rs).any wrongB=false) (hv:loadsP (L:Int) hh=LA rs L 101):LA (rs.set i z) L 101<=LA rs L 101:=by
 rw[<-hv]
 refine hours_least hr hL (by simp[hl]) (in_hours λj h x hj hx'=>?_)
 by_cases e:i=j
 ·subst e
  have h3:=hours_in ha i h r hj hx
  have hil:=(List.getElem?_eq_some_iff.1 hx).1
  rw[List.getElem?_set_self hil]at hx'
  cases hx'
  omega
 ·rw[List.getElem?_set_ne e]at hx'
  exact hours_in ha j h x hj hx'
theorem hours_back{rs:List Rg}{hh:List Int}(ha:(hh.zip rs).any wrongB=false):((hh.map λh=>100-h).zip (backP rs)).any wrongB=false:=in_hours λi h r h1 h2=>by
 unfold backP at h2
 rw[List.getElem?_map]at h1 h2
 obtain⟨h',e1,rfl⟩:=Option.map_eq_some_iff.1 h1
 obtain⟨r',e2,rfl⟩:=Option.map_eq_some_iff.1 h2
 have:=hours_in ha i h' r' e1 e2
 unfold backR
 simp only
 omega
theorem la_back_le{rs:List Rg}{L:Nat}{hh:List Int}(hr:RsOk rs)(hL:1<=L)(hl:hh.length=rs.length)(ha:(hh.zip rs).any wrongB=false)(hv:loadsP (L:Int) hh=LA rs L 101):LA (backP rs) L 101<=LA rs L 101:=by
 have h1:=hours_least (L:=L) (hs:=hh.map λh=>100-h) (back_ok hr) hL (by simp[backP,hl]) (hours_back ha)
 rw[loadsP_nat L hL,loads_back,<-loadsP_nat L hL,hv]at h1
 exact h1
theorem back_back(rs:List Rg):backP (backP rs)=rs:=by
 unfold backP
 rw[List.map_map]
 conv=>rhs;rw[<-List.map_id rs]
 refine List.map_congr_left λr _=>?_
 obtain⟨a,b⟩:=r
 simp only[Function.comp,backR,id,Rg.mk.injEq]
 omega
theorem loads_one{hs:List Int}(hb:∀h∈hs,0<=h/\h<=100):Fill.loadsN 1 hs=hs.length:=by
 unfold Fill.loadsN
 simp only[upN_one]
 apply Nat.le_antisymm (Fill.count_all_le hs)
 have h1:=Fill.count_hours (λ_=>true) hs hb
 simpa using h1
theorem la_one{rs:List Rg}{hh:List Int}(hr:RsOk rs)(hl:hh.length=rs.length)(ha:(hh.zip rs).any wrongB=false)(hv:loadsP ((1:Nat):Int) hh=LA rs 1 101):LA rs 1 101=rs.length:=by
 rw[<-hv,loadsP_nat 1 (Nat.le_refl _),loads_one (hours_range hr hl ha),hl]
def aloneStep(rs:List Rg)(s:Int×Int)(h:Nat):Int×Int:=if rs.any (λr=>decide (r.hi=(h:Int))&&decide (s.2<r.lo))then(s.1+1,(h:Int))else s
def aloneTo(rs:List Rg)(h:Nat):Int×Int:=(List.range h).foldl (aloneStep rs) (0,-1)
theorem aloneTo_succ(rs:List Rg)(h:Nat):aloneTo rs (h+1)=aloneStep rs (aloneTo rs h) h:=by
 unfold aloneTo
 rw[List.range_succ,List.foldl_append]
 rfl
theorem alone_inv{rs:List Rg}(hr:RsOk rs):∀h:Nat,∃k:Nat,(aloneTo rs h).1=k/\-1<=(aloneTo rs h).2/\(aloneTo rs h).2<(h:Int)/\Fill.Chain Rg.lo Rg.hi 10 rs (aloneTo rs h).2 k/\
 ∃S:Int->Nat,(∀T b,T<=b->S T<=S b)/\(∀b,S b<=k)/\(∀b,(aloneTo rs h).2<=b->S b=k)/\(∀b,b<(aloneTo rs h).2->0<=(aloneTo rs h).2->S b<k)/\(∀x∈rs,x.hi<(h:Int)->x.lo<=(aloneTo rs h).2)/\∀x∈rs,x.hi<(h:Int)->S (x.lo-1)<S x.hi
 |0=>⟨0,rfl,by simp[aloneTo],by simp[aloneTo],.nil _,λ_=>0,λ_ _ _=>Nat.le_refl _,λ_=>Nat.le_refl _,λ_ _=>rfl,λb _ h=>by simp[aloneTo]at h,λx hx h=>by have:=hr.2 x hx;omega,λx hx h=>by have:=hr.2 x hx;omega⟩
 |h+1=>by
  obtain⟨k,h1,h2,h3,h4,S,s1,s2,s3,s6,s4,s5⟩:=alone_inv hr h
  rw[aloneTo_succ]
  unfold aloneStep
  by_cases c:rs.any (λr=>decide (r.hi=(h:Int))&&decide ((aloneTo rs h).2<r.lo))=true
  ·rw[if_pos c]
   obtain⟨r,hr1,hr2⟩:=List.any_eq_true.1 c
   simp only[Bool.and_eq_true,decide_eq_true_eq]at hr2
   refine⟨k+1,by rw[h1];simp,by simp only;omega,by simp only;omega,?_,λb=>if(h:Int)<=b then k+1 else S b,λT b hTb=>?_,λb=>?_,λb hb=>?_,λb hb _=>?_,λx hx hxh=>?_,λx hx hxh=>?_⟩
   ·have hrr:=hr.2 r hr1
    refine .cons (h:Int) k 1 r r hr1 hr1 (by omega) (by omega) (h4.mono Rg.lo Rg.hi (by omega)) ?_
    simp only[Nat.sub_self,Nat.zero_mul,Nat.zero_add]
    exact List.countP_pos_iff.2 ⟨r,hr1,(Fill.inW_iff Rg.lo Rg.hi).2 ⟨by omega,Int.le_refl _⟩⟩
   ·simp only
    have a1:=s2 T
    have a2:=s1 T b hTb
    split<;>split<;>omega
   ·simp only
    have a1:=s2 b
    split<;>omega
   ·simp only at hb ⊢
    rw[if_pos hb]
   ·simp only at hb ⊢
    rw[if_neg (by omega)]
    have:=s2 b
    omega
   ·simp only
    have hxx:=hr.2 x hx
    omega
   ·simp only
    by_cases e:x.hi<(h:Int)
    ·have a1:=s4 x hx e
     have a2:=s5 x hx e
     rw[if_neg (by omega),if_neg (by omega)]
     exact a2
    ·have hxx:=hr.2 x hx
     rw[if_pos (show(h:Int)<=x.hi by omega),if_neg (by omega)]
     have:=s2 (x.lo-1)
     omega
  ·rw[if_neg c]
   have hno:∀x∈rs,x.hi=(h:Int)->x.lo<=(aloneTo rs h).2:=λx hx he=>by
    apply Classical.byContradiction
    intro hlt
    exact c (List.any_eq_true.2 ⟨x,hx,by simp only[Bool.and_eq_true,decide_eq_true_eq];omega⟩)
   refine⟨k,h1,h2,by omega,h4,S,s1,s2,s3,s6,λx hx hxh=>?_,λx hx hxh=>?_⟩
   ·by_cases e:x.hi<(h:Int)
    ·exact s4 x hx e
    ·exact hno x hx (by omega)
   ·by_cases e:x.hi<(h:Int)
    ·exact s5 x hx e
    ·have a1:=hno x hx (by omega)
     have a2:=s3 x.hi (by omega)
     have hxx:=hr.2 x hx
     have a3:=s6 (x.lo-1) (by omega) (by omega)
     omega
theorem la_all{rs:List Rg}(hr:RsOk rs):LA rs 10 101=(aloneTo rs 101).1:=by
 obtain⟨k,h1,h2,h3,h4,S,s1,s2,s3,s6,s4,s5⟩:=alone_inv hr 101
 obtain⟨v,e1,e2,e3⟩:=la_chain hr (L:=10) (by omega)
 rw[e1,h1]
 have a1:=e3 k (h4.mono Rg.lo Rg.hi (by omega))
 have a2:=Fill.Chain.le Rg.lo Rg.hi S s1 (λT b hTb=>by
  rcases Nat.eq_zero_or_pos (rs.countP (Fill.inW Rg.lo Rg.hi T b))with h0|h0
  ·omega
  ·obtain⟨x,hx,hp⟩:=List.countP_pos_iff.1 h0
   obtain⟨b1,b2⟩:=(Fill.inW_iff Rg.lo Rg.hi).1 hp
   have hxx:=hr.2 x hx
   have b3:=s5 x hx (by omega)
   have b4:=s1 T (x.lo-1) (by omega)
   have b5:=s1 x.hi b (by omega)
   have b6:rs.countP (Fill.inW Rg.lo Rg.hi T b)<=10:=Nat.le_trans List.countP_le_length hr.1
   have:1*10<=(S b-S T)*10:=Nat.mul_le_mul_right 10 (by omega)
   omega) e2
 have a3:=s2 100
 omega
end Go.Proofs.YtednconodjeniaaGreat
namespace Go.Proofs.YtednconodjeniaaGreat
open Go.RowKit Go.Shelf
def stepF(rs:List Rg)(L h:Nat)(m:Int)(r:Rg):Int:=if r.hi=(h:Int)then max m (LA rs L r.lo.toNat+needP (L:Int) rs r)else m
def stepTo(rs:List Rg)(L h i:Nat):Int:=((winsL rs).take i).foldl (stepF rs L h) (LA rs L h)
theorem stepTo_zero(rs:List Rg)(L h:Nat):stepTo rs L h 0=LA rs L h:=rfl
theorem stepTo_succ{rs:List Rg}{L h i:Nat}{r:Rg}(hr:(winsL rs)[i]? =some r):stepTo rs L h (i+1)=stepF rs L h (stepTo rs L h i) r:=by
 obtain⟨h1,h2⟩:=List.getElem?_eq_some_iff.1 hr
 unfold stepTo
 rw[List.take_succ_eq_append_getElem h1,h2,List.foldl_append]
 rfl
theorem wins_map(rs:List Rg):Fill.windowsP Rg.lo Rg.hi rs=(winsL rs).map λr=>(r.lo,r.hi):=by
 unfold Fill.windowsP winsL
 rw[List.map_flatMap]
 congr 1
 funext a
 rw[List.map_map]
 rfl
theorem fold_congr{α β:Type}{f g:β->α->β}:∀(l:List α)(m:β),(∀m,∀x∈l,f m x=g m x)->l.foldl f m=l.foldl g m
 |[],_,_=>rfl
 |x::l,m,h=>by
  rw[List.foldl_cons,List.foldl_cons,h m x (by simp)]
  exact fold_congr l _ λm y hy=>h m y (by simp[hy])
theorem stepTo_all{rs:List Rg}(hr:RsOk rs)(L h:Nat):stepTo rs L h (winsL rs).length=LA rs L (h+1):=by
 unfold stepTo
 rw[List.take_length,la_succ]
 unfold Fill.leastStep
 rw[wins_map,List.foldl_map]
 refine fold_congr _ _ λm r hw=>?_
 obtain⟨h1,h2,h3⟩:=wins_small hr hw
 unfold stepF
 by_cases e:r.hi=(h:Int)
 ·rw[if_pos e,if_pos e,need_eq,least_low rs L h r.lo.toNat (by omega)]
 ·rw[if_neg e,if_neg e]
end Go.Proofs.YtednconodjeniaaGreat
