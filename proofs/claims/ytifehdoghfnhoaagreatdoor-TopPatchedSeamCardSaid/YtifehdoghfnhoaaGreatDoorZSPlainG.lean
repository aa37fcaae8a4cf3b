/- The hours and the proof that are returned are right, and have as many loads. No program. · Right hours have at least the fewest loads; a right proof proves at most as many. No program. · Plain laws of the fewest loads: the late loads as the greedy filling; chains; hours. No program. · Plain laws of hours: more room, wider ranges, counted back; one log in a load, all logs in one. No program. · One hour of the document's least loads, window by window. No program. -/
import Derived.Test.YtifehdoghfnhoaaGreatDoorZSApiG
import Derived.BigRegion
namespace Go.Proofs.YtifehdoghfnhoaaGreatDoor
open Go.RowKit Go.Shelf
def OwnN(W:World)(base g n cap:Nat)(M:Nat->Int):Prop:=W.ownsRow base 2 1 (.slice (some ⟨g,0,none⟩) n cap) n ((List.range n).map λp=>Value.int .i64 (M p))
section
variable{W W':World}{base g n cap:Nat}{M:Nat->Int}
theorem OwnN.later(h:OwnN W base g n cap M)(hb:Below W.heap.size W W'):OwnN W' base g n cap M:=owL h hb
theorem OwnN.parts(h:OwnN W base g n cap M):base<=g/\n<=cap/\cap<=9223372036854775807/\∃cur:Array Value,Blk W g 2 cur/\cur.size=cap/\∀p,p<n->cur[p]? =some (.int .i64 (M p)):=by
 rcases h.2 with⟨hv,_⟩|⟨g',cap',cur,hv,hb,hg,hc,hm,hs,ht⟩
 ·cases hv
 ·simp only[Value.slice.injEq,Option.some.injEq,Addr.mk.injEq,and_true]at hv
  obtain⟨rfl,_,rfl⟩:=hv
  refine⟨hb,hc,by simp only[maxLen]at hm;omega,cur,hg,by omega,λp hp=>?_⟩
  have h1:(List.take (n*1) cur.toList)[p]? =some (.int .i64 (M p)):=by
   rw[ht,List.getElem?_map,List.getElem?_range hp];rfl
  rw[List.getElem?_take_of_lt (by omega)]at h1
  simpa using h1
theorem OwnN.cells(h:OwnN W base g n cap M):g<W.heap.size/\(∀o,W.frozen? ⟨g,o,none⟩=false)/\∀p,p<n->W.cell? ⟨g,p,none⟩=some (.int .i64 (M p)):=by
 obtain⟨_,_,_,cur,hb,_,hc⟩:=h.parts
 exact⟨hb.lt,λo=>hb.frozen o,λp hp=>(hb.cell p).trans (hc p hp)⟩
theorem OwnN.set(h:OwnN W base g n cap M)(i:Nat)(x:Int):OwnN (W.setCell ⟨g,i,none⟩ (.int .i64 x)) base g n cap (updN M i x):=by
 obtain⟨hb,hc,hm,cur,hblk,hsz,hcell⟩:=h.parts
 refine⟨by simp,.inr ⟨g,cap,_,rfl,hb,hblk.set i (.int .i64 x),hc,by simp only[maxLen];omega,by simp[hsz],?_⟩⟩
 apply List.ext_getElem
 ·simp[hsz];omega
 ·intro p h1 h2
  have hp:p<n:=by simpa using h2
  have h3:=hcell p hp
  obtain⟨hpc,h3⟩:=Array.getElem?_eq_some_iff.1 h3
  simp only[List.getElem_take,Array.getElem_toList,List.getElem_map,List.getElem_range]
  rw[Array.getElem_setIfInBounds hpc,h3]
  by_cases e:i=p
  ·subst e;simp[updN]
  ·simp[e,updN,show¬p=i fromλh=>e h.symm]
theorem OwnN.congr{M':Nat->Int}(h:OwnN W base g n cap M)(hM:∀p,p<n->M p=M' p):OwnN W base g n cap M':=by
 unfold OwnN at h ⊢
 rw[show((List.range n).map λp=>Value.int .i64 (M' p))=((List.range n).map λp=>Value.int .i64 (M p))from List.map_congr_left λp hp=>by rw[hM p (List.mem_range.1 hp)]]
 exact h
end
def revM(T:Nat->Int)(n i p:Nat):Int:=if p<i\/n<=p+i then T (n-1-p)else T p
theorem rev_step(T:Nat->Int)(n i:Nat)(hi:2*i+1<n):∀p,p<n->updN (updN (revM T n i) i (T (n-1-i))) (n-1-i) (T i) p=revM T n (i+1) p:=by
 intro p hp
 unfold updN revM
 by_cases e1:p=n-1-i
 ·subst e1
  rw[if_pos rfl,if_pos (by omega),show n-1-(n-1-i)=i by omega]
 ·rw[if_neg e1]
  by_cases e2:p=i
  ·subst e2
   rw[if_pos rfl,if_pos (by omega)]
  ·rw[if_neg e2]
   by_cases h1:p<i\/n<=p+i
   ·rw[if_pos h1,if_pos (by omega)]
   ·rw[if_neg h1,if_neg (by omega)]
set_option maxRecDepth 100000 in
set_option maxHeartbeats 4000000 in
theorem reverse_any(base g n cap:Nat)(T:Nat->Int)(w:World)(hn:n<=1000000)(ho:OwnN w base g n cap T):
 Calls Tryz.prog 260 #[.slice (some ⟨g,0,none⟩) n cap] w λe w'=>e=.returned (.tuple #[])/\Below base w w'/\OwnN w' base g n cap (λp=>T (n-1-p)):=by
 have Ho:=Lib.hid ho
 have hbg:=ho.parts.1
 clear ho
 have i0:IntKind.i64.wrap ((n:Int)-1)=(n:Int)-1:=by rw[IntKind.wrap_i64];omega
 go_enter Tryz.func260,Tryz.ntmps260
 go_wp2_with fail
 refine lpn (λm a W=>a.defers=[]/\∃(i:Nat)(j:Int),i+m=n/\j=(n:Int)-1-(i:Int)/\2*i<=n+1/\Below base w W/\OwnN W base g n cap (revM T n i)/\Fits (some (.slice (some ⟨g,0,none⟩) n cap)::none::some (.int .i64 (i:Nat))::some (.int .i64 j)::none::none::none::none::none::none::none::none::none::none::none::none::none::none::none::none::none::none::none::none::none::none::none::none::[]) a.tmps.toList) n ?_ ?_
 ·refine⟨rfl,0,(n:Int)-1,by omega,by omega,by omega,Below.refl _ _,Ho.out.congr (λp hp=>by unfold revM;rw[if_neg (by omega)]),?_⟩
  repeat (first|exact ftL|refine ftN ?_|refine ftS ?_)
 clear i0
 intro m a W hI K hK
 obtain⟨hds,i,j,him,hj,h2i,hb,ho,hfit⟩:=hI
 obtain⟨f,hf⟩:=ftA hfit
 rw[hds]at hf
 subst hf
 clear hfit hds
 simp only[fillP,Nat.reduceAdd]
 obtain⟨c2,c3,c0⟩:=ho.cells
 have HO:=Lib.hid ho
 have HB:=Lib.hid hb
 by_cases hlt:2*i+1<n
 ·obtain⟨k,hk⟩:∃k,n-1-i=k:=⟨_,rfl⟩
  have hjk:j=(k:Int):=by omega
  have hki:k<n:=by omega
  have hkn:k≠i:=by omega
  have d0:=c0 i (by omega)
  have d1:=c0 k hki
  have e0:revM T n i i=T i:=by unfold revM;rw[if_neg (by omega)]
  have e1:revM T n i k=T k:=by unfold revM;rw[if_neg (by omega)]
  rw[e0]at d0
  rw[e1]at d1
  have d2:=c3 i
  have d3:=c3 k
  have HS:=Lib.hid (show OwnN ((W.setCell ⟨g,i,none⟩ (.int .i64 (T k))).setCell ⟨g,k,none⟩ (.int .i64 (T i))) base g n cap (revM T n (i+1))from((ho.set i (T k)).set k (T i)).congr (by rw[<-hk];exact rev_step T n i hlt))
  have i1:(i:Int)<(k:Int):=by omega
  have i2:(0:Int)<=(i:Int):=by omega
  have i3:IntKind.i64.wrap ((i:Int)+1)=(i:Int)+1:=by rw[IntKind.wrap_i64];omega
  have i4:IntKind.i64.wrap ((k:Int)-1)=(k:Int)-1:=by rw[IntKind.wrap_i64];omega
  have i5:(k:Int)<(n:Int):=by omega
  have i6:(i:Int)<(n:Int):=by omega
  have i7:(0:Int)<=(k:Int):=by omega
  have Hk:=Lib.hid hk
  subst hjk
  clear hb ho c0 c3 e0 e1 hk hj HO
  go_wp2_with fail
  go_region
  go_wp2
  have hk2:=Hk.out
  refine hK _ _ (m-1) (by omega) ⟨rfl,i+1,(k:Int)-1,by omega,by omega,by omega,((HB.out.setCell hbg _).setCell hbg _).drew,HS.out.later (brefl _).drew,?_⟩
  repeat (first|exact ftL|refine ftN ?_|refine ftS ?_)
 ·have j1:¬((i:Int)<j):=by omega
  have HE:=Lib.hid (ho.congr (M':=λp=>T (n-1-p)) (λp hp=>by
   unfold revM
   by_cases h1:p<i\/n<=p+i
   ·rw[if_pos h1]
   ·rw[if_neg h1,show n-1-p=p by omega]))
  clear hK hb ho c0 c3 hj
  go_wp2
  go_end0
  exact⟨rfl,HB.out,HE.out⟩
set_option maxHeartbeats 1000000 in
theorem reverse_nil(w:World):
 Calls Tryz.prog 260 #[.slice none 0 0] w λe w'=>e=.returned (.tuple #[])/\Below w.heap.size w w':=by
 go_enter Tryz.func260,Tryz.ntmps260
 go_wp2_with fail
 refine wp_loop_rounds 1 ?_
 rw[rounds_succ]
 go_wp2
 go_end0
 exact⟨rfl,brefl _⟩
end Go.Proofs.YtifehdoghfnhoaaGreatDoor
namespace Go.Proofs.YtifehdoghfnhoaaGreatDoor
open Go.RowKit Go.Shelf
def earlyV(L:Int)(rs:List Rg):List Int:=if yardE L rs=0 then((Fill.lateP (LA (backP rs) L.toNat) 101).reverse).map (λt=>100-t)else []
theorem yard_of{L:Int}{rs:List Rg}(hL:1<=L/\L<=10)(hr:RsOk rs):yardE L rs=0:=by
 unfold yardE
 rw[if_pos ((inR_iff _ _ _).2 hL),if_neg (by have:=hr.1;omega),if_neg]
 intro ha
 obtain⟨x,hx,hb⟩:=List.any_eq_true.1 ha
 have h1:=hr.2 x hx
 unfold badR at hb
 have h2:winB x=true:=by rw[win_alt];simp;omega
 rw[h2]at hb
 cases hb
theorem back_ok{rs:List Rg}(hr:RsOk rs):RsOk (backP rs):=by
 refine⟨by simpa[backP]using hr.1,λx hx=>?_⟩
 obtain⟨y,hy,rfl⟩:=List.mem_map.1 hx
 have h1:=hr.2 y hy
 unfold backR
 simp only
 omega
theorem late_mem{A:Nat->Int}{t:Int}(h:t∈Fill.lateP A 101):0<=t/\t<=100:=by
 unfold Fill.lateP at h
 obtain⟨j,hj,ht⟩:=List.mem_flatMap.1 h
 have h1:=List.mem_range.1 hj
 obtain⟨_,rfl⟩:=List.mem_replicate.1 ht
 omega
theorem rangeM(ts:List Int):ts.map (Value.int .i64)=(List.range ts.length).map λp=>Value.int .i64 (ts.getD p 0):=by
 apply List.ext_getElem
 ·simp
 ·intro i h1 h2
  have h3:i<ts.length:=by simpa using h1
  simp[List.getD,h3]
theorem revMap(ts:List Int):(ts.reverse.map λt=>100-t).map (Value.int .i64)=(List.range ts.length).map λp=>Value.int .i64 (100-ts.getD (ts.length-1-p) 0):=by
 apply List.ext_getElem
 ·simp
 ·intro i h1 h2
  have h3:i<ts.length:=by simpa using h1
  simp[List.getD,show ts.length-1-i<ts.length by omega]
set_option maxRecDepth 100000 in
set_option maxHeartbeats 4000000 in
theorem early_any(L:Int)(A:Option Addr)(n c:Nat)(rs:List Rg)(w:World)(hs:Sl 2 encR w w.heap.size A n c rs):
 Calls Tryz.prog 167 #[.agg #[.int .i64 L,.slice A n c]] w λe w'=>∃v,e=.returned (.tuple #[v,.int .i64 (yardE L rs)])/\Below w.heap.size w w'/\w'.ownsRow w.heap.size 2 1 v (earlyV L rs).length ((earlyV L rs).map (.int .i64)):=by
 obtain rfl:=hs.len
 have HY:=Lib.hid (show YB w (w.alloc (.cells #[.int .i64 L,.slice A rs.length c] 30)) L A rs.length c from⟨balloc (brefl w) _,Blk.new w _ _⟩)
 have hc:=Lib.hid (checkYard_any L A rs.length c rs _ (hs.later HY.out.bel))
 have Hs:=Lib.hid hs
 by_cases he:yardE L rs=0
 ·obtain⟨m,rfl,hL,hr⟩:=yard_nat he
  have Hr:=Lib.hid hr
  rw[he]at hc ⊢
  unfold earlyV
  rw[if_pos he,show((m:Nat):Int).toNat=m by omega]
  obtain⟨ts,hts⟩:∃ts,Fill.lateP (LA (backP rs) m) 101=ts:=⟨_,rfl⟩
  have Htm:=Lib.hid (show∀t∈ts,0<=t/\t<=100 fromλt ht=>late_mem (by rw[hts];exact ht))
  rw[hts]
  have Hts:=Lib.hid hts
  clear hs he hr hts
  go_enter Tryz.func167,Tryz.ntmps167
  go_wp2_with fail
  refine hc.out.mono ?_
  rintro e w1⟨rfl,hb1⟩
  have hY1:=HY.out.later hb1
  have c0:=hY1.b0.cell 0
  have c1:=hY1.b0.cell 1
  have c2:=hY1.b0.lt
  have HY1:=Lib.hid hY1
  clear hb1 hY1
  go_wp2_with fail
  refine(back_any (m:Int) A rs.length c rs w1 (Hs.out.later HY1.out.bel) Hr.out).mono ?_
  rintro e w2⟨A',c',rfl,hb2,hsl⟩
  have HY2:=Lib.hid (HY1.out.later hb2)
  have Hsl:=Lib.hid hsl
  have hbl:(backP rs).length=rs.length:=by simp[backP]
  clear hb2 hsl c0 c1 c2
  go_wp2_with fail
  have hlt:=late_any (m:Int) A' rs.length c' (backP rs) w2 Hsl.out
  unfold lateV at hlt
  have hyb:yardE (m:Int) (backP rs)=0:=yard_of (by omega) (back_ok Hr.out)
  rw[hyb,if_pos rfl,show((m:Nat):Int).toNat=m by omega,Hts.out]at hlt
  refine hlt.mono ?_
  rintro e w3⟨v,rfl,hb3,hown,hlen⟩
  have hB3:=Below.later HY2.out.bel hb3
  have hown2:=own_low hown HY2.out.bel.size
  have hla:=la_bound (back_ok Hr.out) hL 101
  unfold fewV at hlen
  rw[hyb,if_pos rfl,show((m:Nat):Int).toNat=m by omega]at hlen
  have hn1:ts.length<=200000:=by omega
  have HB3:=Lib.hid hB3
  have Hown:=Lib.hid hown2
  clear hlt hb3 hown hB3 hla hlen hyb hbl
  rcases hown2.2 with⟨rfl,hn0⟩|⟨g,cap,cur,rfl,_⟩
  ·have hts0:ts=[]:=List.eq_nil_of_length_eq_zero hn0
   have HT0:=Lib.hid hts0
   clear hown2 hn0 hts0 Hown
   go_wp2_with fail
   refine(reverse_nil _).mono ?_
   rintro e w4⟨rfl,hb4⟩
   have HB4:=Lib.hid (Below.later HB3.out hb4)
   clear hb4
   go_wp2_with fail
   refine wp_loop_rounds 1 ?_
   rw[rounds_succ]
   go_wp2
   go_ret2
   exact⟨_,rfl,HB4.out,by rw[HT0.out];exact World.ownsRow_nil _ _ _ _⟩
  ·have ho:OwnN w3 w.heap.size g ts.length cap (λp=>ts.getD p 0):=by
    unfold OwnN
    rw[<-rangeM]
    exact hown2
   have HO:=Lib.hid ho
   clear hown2 ho Hown
   obtain⟨n,hn⟩:∃n,ts.length=n:=⟨_,rfl⟩
   have Hn:=Lib.hid hn
   have HR:=Lib.hid (show∀p,p<n->0<=ts.getD (n-1-p) 0/\ts.getD (n-1-p) 0<=100 fromλp hp=>by
    refine Htm.out _ ?_
    simp[List.getD,show n-1-p<ts.length by omega])
   have HV:=Lib.hid (revMap ts)
   rw[hn]at HO hn1 HV ⊢
   have HV2:=Lib.hid (show(ts.reverse.map λt=>100-t).length=n by simp;exact hn)
   clear hn
   obtain⟨R,hR⟩:∃R:Nat->Int,(λp=>ts.getD (n-1-p) 0)=R:=⟨_,rfl⟩
   have HRb:=Lib.hid (show∀p,p<n->0<=R p/\R p<=100 fromλp hp=>by rw[<-hR];exact HR.out p hp)
   have hrv:=reverse_any w.heap.size g n cap (λp=>ts.getD p 0) w3 (by omega) HO.out
   have hV3:((ts.reverse.map λt=>100-t).map (Value.int .i64))=(List.range n).map λp=>Value.int .i64 (100-R p):=by rw[HV.out,<-hR]
   rw[hR]at hrv
   have Hrv:=Lib.hid hrv
   have HV3:=Lib.hid hV3
   clear hrv hR HV HR hV3
   go_wp2_with fail
   refine Hrv.out.mono ?_
   rintro e w4⟨rfl,hb4,ho4⟩
   have HB4:=Lib.hid (HB3.out.trans hb4)
   have HO4:=Lib.hid ho4
   clear hb4 ho4 HO Hrv
   go_wp2_with fail
   refine lpn (λq a W=>a.defers=[]/\∃i:Nat,i+q=n/\Below w.heap.size w W/\OwnN W w.heap.size g n cap (λp=>if p<i then 100-R p else R p)/\Fits (none::none::none::none::none::some (.slice (some ⟨g,0,none⟩) n cap)::none::none::none::none::none::none::none::none::none::none::none::none::none::none::none::none::some (.int .i64 (n:Nat))::some (.int .i64 (i:Nat))::none::none::none::none::none::none::none::none::none::none::none::none::[]) a.tmps.toList) n ?_ ?_
   ·refine⟨rfl,0,by omega,HB4.out,HO4.out.congr (λp _=>by simp),?_⟩
    repeat (first|exact ftL|refine ftN ?_|refine ftS ?_)
   clear HB4 HO4
   intro q a W hI K hK
   obtain⟨hds,i,hiq,hb,ho,hfit⟩:=hI
   obtain⟨f,hf⟩:=ftA hfit
   rw[hds]at hf
   subst hf
   clear hfit hds
   simp only[fillP,Nat.reduceAdd]
   obtain⟨c2,c3,c0⟩:=ho.cells
   have hge:=ho.parts.1
   have HO:=Lib.hid ho
   have HB:=Lib.hid hb
   by_cases hlt:i<n
   ·have d0:=c0 i hlt
    simp only[Nat.lt_irrefl,if_false]at d0
    obtain⟨r0,r1⟩:=HRb.out i hlt
    have d2:=c3 i
    have i1:(i:Int)<(n:Int):=by omega
    have i2:(0:Int)<=(i:Int):=by omega
    have i3:IntKind.i64.wrap ((i:Int)+1)=(i:Int)+1:=by rw[IntKind.wrap_i64];omega
    have i4:IntKind.i64.wrap (100-R i)=100-R i:=by rw[IntKind.wrap_i64];omega
    have HS:=Lib.hid ((ho.set i (100-R i)).congr (M':=λp=>if p<i+1 then 100-R p else R p) (λp hp=>by
     unfold updN
     by_cases e:p=i
     ·subst e;simp
     ·rw[if_neg e]
      show(if p<i then 100-R p else R p)=_
      by_cases h1:p<i
      ·rw[if_pos h1,if_pos (by omega)]
      ·rw[if_neg h1,if_neg (by omega)]))
    clear hb ho c0 c3 HO
    go_wp2
    refine hK _ _ (q-1) (by omega) ⟨rfl,i+1,by omega,HB.out.setCell hge _,HS.out,?_⟩
    repeat (first|exact ftL|refine ftN ?_|refine ftS ?_)
   ·obtain rfl:i=n:=by omega
    have HE:=Lib.hid (ho.congr (M':=λp=>100-R p) (λp hp=>by rw[if_pos hp]))
    clear hK hb ho c0 c3
    go_wp2
    go_ret2
    exact⟨_,rfl,HB.out,by rw[HV2.out,HV3.out];exact HE.out⟩
 ·unfold earlyV
  rw[if_neg he]
  obtain⟨q,hq⟩:∃q,yardE L rs=q:=⟨_,rfl⟩
  rw[hq]at hc he ⊢
  have d1:(q != 0)=true:=by simpa using he
  clear hs he hq
  go_enter Tryz.func167,Tryz.ntmps167
  go_wp2_with fail
  refine hc.out.mono ?_
  rintro e w1⟨rfl,hb1⟩
  have HB:=Lib.hid (Below.later HY.out.bel hb1)
  clear hb1
  go_wp2
  go_ret2
  exact⟨_,rfl,HB.out,World.ownsRow_nil _ _ _ _⟩
end Go.Proofs.YtifehdoghfnhoaaGreatDoor
namespace Go.Proofs.YtifehdoghfnhoaaGreatDoor
open Go.RowKit Go.Shelf
theorem asg_other:∀(ps:List (Nat×Int))(H:Nat->Int)(k:Nat),(∀p∈ps,p.1≠k)->asg ps H k=H k
 |[],_,_,_=>rfl
 |p::ps,H,k,h=>by
  have h1:=asg_other ps (updN H p.1 p.2) k (λq hq=>h q (by simp[hq]))
  show asg ps (updN H p.1 p.2) k=H k
  rw[h1]
  unfold updN
  rw[if_neg (λe=>h p (by simp) e.symm)]
theorem asg_at:∀(ps:List (Nat×Int))(H:Nat->Int),(ps.map (·.1)).Nodup->∀p∈ps,asg ps H p.1=p.2
 |[],_,_,p,hp=>by simp at hp
 |q::ps,H,hn,p,hp=>by
  rw[List.map_cons,List.nodup_cons]at hn
  show asg ps (updN H q.1 q.2) p.1=p.2
  rcases List.mem_cons.1 hp with rfl|hp
  ·rw[asg_other ps _ p.1 (λr hr e=>hn.1 (by rw[<-e];exact List.mem_map.2 ⟨r,hr,rfl⟩))]
   simp[updN]
  ·exact asg_at ps _ hn.2 p hp
theorem up_nat(n L:Nat)(hL:1<=L):upI (n:Int) (L:Int)=(Fill.upN n L:Nat):=by
 unfold upI Fill.upN
 rw[show((n:Int)+(L:Int)-1)=((n+L-1:Nat):Int)by omega]
 rfl
theorem loads_nat(L:Nat)(hL:1<=L)(hs:List Int):∀t,loadsTo (L:Int) hs t=(((List.range t).map λt:Nat=>Fill.upN (hs.countP λh=>decide (h=(t:Int))) L).sum:Nat)
 |0=>rfl
 |t+1=>by
  rw[loadsTo,loads_nat L hL hs t,List.range_succ,List.map_append,List.sum_append]
  unfold cntP
  rw[up_nat _ L hL]
  simp
theorem loads_perm(L:Nat)(hL:1<=L){hs hs':List Int}(h:hs.Perm hs'):loadsP (L:Int) hs=loadsP (L:Int) hs':=by
 unfold loadsP
 rw[loads_nat L hL,loads_nat L hL]
 congr 3
 funext t
 rw[h.countP_eq]
theorem fill_hours{rs:List Rg}{L:Nat}{l:List Nat}{ts:List Int}{H:Nat->Int}(h:FillOk rs L l ts H)(hr:RsOk rs)(hL:1<=L/\L<=10):hoursE (L:Int) rs ((List.range rs.length).map H)=0/\hoursV (L:Int) rs ((List.range rs.length).map H)=LA rs L 101:=by
 have hb:∀x∈List.range rs.length,0<=loAt rs x/\loAt rs x<=hiAt rs x/\hiAt rs x<=100:=λx hx=>hr.at_ (List.mem_range.1 hx)
 have hlen:l.length=rs.length:=by rw[h.perm.length_eq,List.length_range]
 obtain⟨ps,hps⟩:∃ps,Fill.fillA (loAt rs) (hiAt rs) L rs.length l=ps:=⟨_,rfl⟩
 have hright:=Fill.fillA_right (loAt rs) (hiAt rs) L rs.length l h.srt
 have hall:=λq:Nat->Bool=>Fill.fillA_all (loAt rs) (hiAt rs) L hL.1 q rs.length l (by omega) (λx hx=>(hb x (h.perm.mem_iff.1 hx)).2.1)
 have hld:=Fill.fill_loads (loAt rs) (hiAt rs) L hL.1 (List.range rs.length) l hb h.srt (λx hx=>h.perm.mem_iff.1 hx) (λp=>h.perm.countP_eq p) rs.length (by omega)
 rw[hps]at hright hall hld
 rw[<-h.ts_eq]at hld
 have hH:=h.hrs
 rw[hps]at hH
 have hperm:(ps.map (·.1)).Perm (List.range rs.length):=by
  refine List.Perm.trans ?_ h.perm
  rw[List.perm_iff_count]
  intro a
  have h1:=hall (λx=>x==a)
  unfold List.count
  rw[List.countP_map]
  exact h1
 have hnd:(ps.map (·.1)).Nodup:=hperm.nodup_iff.2 List.nodup_range
 have hat:∀p∈ps,H p.1=p.2:=λp hp=>by rw[hH];exact asg_at ps _ hnd p hp
 have hmap:((List.range rs.length).map H).Perm (ps.map (·.2)):=by
  have h1:ps.map (·.2)=(ps.map (·.1)).map H:=by
   rw[List.map_map]
   exact List.map_congr_left λp hp=>(hat p hp).symm
  rw[h1]
  exact(hperm.map H).symm
 have hE:hoursE (L:Int) rs ((List.range rs.length).map H)=0:=by
  unfold hoursE
  rw[if_pos (yard_of (by omega) hr),if_pos (by simp),if_neg]
  intro ha
  obtain⟨p,hp,hb⟩:=List.any_eq_true.1 ha
  obtain⟨j,hj⟩:=List.getElem?_of_mem hp
  obtain⟨h1,h2⟩:=List.getElem?_zip_eq_some.1 hj
  have hjl:j<rs.length:=(List.getElem?_eq_some_iff.1 h2).1
  rw[List.getElem?_map,List.getElem?_range hjl]at h1
  simp at h1
  obtain⟨q,hq,hqj⟩:∃q∈ps,q.1=j:=by
   have:=hperm.mem_iff.2 (List.mem_range.2 hjl)
   obtain⟨q,hq,e⟩:=List.mem_map.1 this
   exact⟨q,hq,e⟩
  have h3:=hright q hq
  have h4:=hat q hq
  rw[hqj]at h3 h4
  rw[loAt_eq h2,hiAt_eq h2]at h3
  unfold wrongB at hb
  rw[Bool.not_eq_true',inR_no]at hb
  rw[<-h1]at hb
  omega
 refine⟨hE,?_⟩
 unfold hoursV
 rw[hE,if_pos rfl,loads_perm L hL.1 hmap]
 have h5:=(fill_late h hr hL.1).2
 rw[<-h5,<-hld]
 unfold loadsP Fill.loadsN
 exact loads_nat L hL.1 _ 101
theorem chain_proof{rs:List Rg}{L:Nat}{ws:List Rg}(hr:RsOk rs)(hL:1<=L/\L<=10)(c:ChainOk rs (L:Int) 101 ws (LA rs L 101)):(ws.length<=10/\proofE (L:Int) rs ws=0)/\proofV (L:Int) rs ws=LA rs L 101:=by
 have hwl:ws.length<=10:=by
  have h1:=chain_len (rs:=rs) (L:=(L:Int)) (by omega) (λx hx=>(hr.2 x hx).2.1) ws (λr hr=>(c.win r hr).2) c.pw
  have h2:=List.countP_le_length (p:=λx=>ws.any λr=>inWd r x) (l:=rs)
  have h3:=hr.1
  omega
 have hw:∀r∈ws,0<=r.lo/\r.lo<=r.hi/\r.hi<=100:=λr h=>wins_small hr (c.win r h).1
 have hsep:∀(l:List Rg)(e:Int),l.Pairwise (λa b=>a.hi<b.lo)->(∀r∈l,e<r.lo)->sepB e l=true:=by
  intro l
  induction l with
  |nil=>intro e _ _;rfl
  |cons r l ih=>
   intro e hp he
   rw[List.pairwise_cons]at hp
   show(decide (e<r.lo)&&sepB r.hi l)=true
   rw[ih r.hi hp.2 hp.1,Bool.and_true,decide_eq_true_eq]
   exact he r (by simp)
 have hE:proofE (L:Int) rs ws=0:=by
  unfold proofE
  rw[if_pos (yard_of (by omega) hr),if_neg (by omega),if_neg,if_pos (hsep ws (-1) c.pw (λr h=>by have:=hw r h;omega))]
  intro ha
  obtain⟨x,hx,hb⟩:=List.any_eq_true.1 ha
  have h1:=hw x hx
  unfold badR at hb
  have h2:winB x=true:=by rw[win_alt];simp;omega
  rw[h2]at hb
  cases hb
 exact⟨⟨hwl,hE⟩,by unfold proofV;rw[hE,if_pos rfl,<-c.sum]⟩
end Go.Proofs.YtifehdoghfnhoaaGreatDoor
namespace Go.Proofs.YtifehdoghfnhoaaGreatDoor
open Go.RowKit Go.Shelf
end Go.Proofs.YtifehdoghfnhoaaGreatDoor
namespace Go.Proofs.YtifehdoghfnhoaaGreatDoor
open Go.RowKit Go.Shelf
end Go.Proofs.YtifehdoghfnhoaaGreatDoor
namespace Go.Proofs.YtifehdoghfnhoaaGreatDoor
open Go.RowKit Go.Shelf
end Go.Proofs.YtifehdoghfnhoaaGreatDoor
namespace Go.Proofs.YtifehdoghfnhoaaGreatDoor
open Go.RowKit Go.Shelf
end Go.Proofs.YtifehdoghfnhoaaGreatDoor
