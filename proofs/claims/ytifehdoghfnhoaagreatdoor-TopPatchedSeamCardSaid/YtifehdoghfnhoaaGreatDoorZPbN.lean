/- Patch: the longest list of knots that are alone. -/
import Derived.Test.YtifehdoghfnhoaaGreatDoorZPbC
import Derived.Test.YtifehdoghfnhoaaGreatDoorZPbI
import Derived.Test.YtifehdoghfnhoaaGreatDoorZPbK
import Derived.Laws.CopyOwn
namespace Go.Proofs.YtifehdoghfnhoaaGreatDoor.Pa
open Go.RowKit Go.Shelf Go.Proofs.YtifehdoghfnhoaaGreatDoor.C
theorem knN_mem{o:Nat->Nat->Bool}{cn:Nat}{x:Nat×Nat}:∀{i k:Nat},x∈knN o cn i k->((x.1<i/\x.2<cn)\/(x.1=i/\x.2<k))/\o x.1 x.2=true
 |0,k,h=>by
  obtain⟨c,hc,rfl⟩:=List.mem_map.1 h
  obtain⟨h1,h2⟩:=List.mem_filter.1 hc
  exact⟨.inr ⟨rfl,List.mem_range.1 h1⟩,h2⟩
 |i+1,k,h=>by
  rcases List.mem_append.1 h with h|h
  ·obtain⟨h1,h2⟩:=knN_mem h
   refine⟨.inl ?_,h2⟩
   rcases h1 with h1|h1<;>omega
  ·obtain⟨c,hc,rfl⟩:=List.mem_map.1 h
   obtain⟨h1,h2⟩:=List.mem_filter.1 hc
   exact⟨.inr ⟨rfl,List.mem_range.1 h1⟩,h2⟩
theorem cntF_none{h:Nat->Nat->Bool}(hh:∀a c,h a c=false):∀r c,cntF h r c=0
 |0,c=>rfl
 |r+1,c=>by
  have:rowc h r c=0:=by
   unfold rowc
   rw[List.filter_eq_nil_iff.2 (λx _=>by rw[hh];simp)]
   rfl
  simp[cntF,cntF_none hh r c,this]
theorem figC_none{h:Nat->Nat->Bool}(hh:∀a c,h a c=false)(cn i k:Nat):nzF (figC h cn i k)=false:=by
 unfold nzF
 have:((List.range 49).all λx=>Nat.beq (figC h cn i k x) 0)=true:=by
  rw[List.all_eq_true]
  intro x _
  have:figC h cn i k x=0:=by
   unfold figC
   simp only[cntF_none hh]
   split
   ·rfl
   ·split<;>rfl
  rw[this]
  rfl
 rw[this]
 rfl
structure BeOf(p:BP)(rn cn most:Nat)(rows:List ByteArray):Prop where
 hrn:p.rn=rn
 hcn:p.rs.size=cn
 hmost:p.most=most
 hks:p.ks=knN (atB rows 111) cn rn 0
 hF:p.F=figC (atB rows 35) cn rn 0
theorem BeOf.clear{p:BP}{rn cn most:Nat}{rows:List ByteArray}(h:BeOf p rn cn most rows)(h1:∀a c,atB rows 35 a c=false)(hm:1<=most):Clear p:=by
 refine⟨by rw[h.hF];exact figC_none h1 _ _ _,λx hx=>?_,by rw[h.hmost];exact hm⟩
 rw[h.hks]at hx
 rw[h.hrn,h.hcn]
 rcases(knN_mem hx).1 with h2|h2<;>omega
set_option maxRecDepth 100000 in
set_option maxHeartbeats 1000000 in
theorem open_be(RA:Option Addr)(rn rc most cn:Nat)(rows:List ByteArray)(w:World)(hs:Sl 1 encB8 w w.heap.size RA rn rc rows)(hok:ShOk rn cn most rows)(h10:(knN (atB rows 111) cn rn 0).length<=10):
 Calls Tryz.prog 28 #[.agg #[.slice RA rn rc,.int .i64 (most:Nat)]] w λe w'=>∃T p,e=.returned (.tuple #[.pointer (some ⟨T,0,none⟩),.int .i64 0])/\Below w.heap.size w w'/\Be p T w'/\BeOf p rn cn most rows:=by
 have H:=open_ok RA rn rc most cn rows w hs hok
 have r1:=hok.r1
 have r6:=hok.r6
 have c6:=hok.c6
 have m36:=hok.m36
 obtain⟨b,o,r0,rfl,hb,hx,x0⟩:=ltB8 hs (show 0<rn by omega)
 rw[Nat.add_zero]at x0
 have hsz:=hok.sz r0 (List.mem_of_getElem? hx)
 refine H.mono ?_
 rintro e w'⟨T,v,V,rfl,hbV,hN⟩
 have hbel:=Below.later hbV hN.bel
 obtain⟨A,c,rfl,hsl⟩:=own_slG (k:=2) (enc:=encCl) (λ_=>rfl) hN.own rfl
 refine⟨T,⟨b,o,rn,rc,r0,most,figC (atB rows 35) cn rn 0,A,c,knN (atB rows 111) cn rn 0⟩,rfl,hbel,⟨⟨hN.b.lt,?_,?_,λi hi=>?_,?_,?_,r1,r6,?_,?_,λi hi=>figC_le _ _ _ _ hi⟩,⟨hN.b.lt,?_,hsl⟩,h10,λx hx=>?_⟩,⟨rfl,hsz,rfl,rfl,rfl⟩⟩
 ·exact(hN.b.cell 0).trans ((benchA_low (show 0<3 by omega)).trans rfl)
 ·exact(hN.b.cell 1).trans ((benchA_low (show 1<3 by omega)).trans rfl)
 ·exact(hN.b.cell (3+i)).trans (benchA_get hi)
 ·exact Nat.lt_of_lt_of_le hb hbel.size
 ·exact(hbel.cell (p:=⟨b,o,none⟩) hb).trans x0
 ·show r0.size<=6
  omega
 ·show most<=1000
  omega
 ·exact(hN.b.cell 2).trans ((benchA_low (show 2<3 by omega)).trans rfl)
 ·rcases(knN_mem hx).1 with h2|h2<;>omega
end Go.Proofs.YtifehdoghfnhoaaGreatDoor.Pa
namespace Go.Proofs.YtifehdoghfnhoaaGreatDoor.Pa
open Go.RowKit Go.Shelf Go.Proofs.YtifehdoghfnhoaaGreatDoor.C
theorem run_copy_pc{P:Program}(w:World)(dT sT ty elem:TypeId)(g dLen dCap:Nat)(a:Addr)(sLen sCap:Nat)(cur:Array Value)(t:TypeId)(cs:List Value)(i:TypeInfo)
 (hu:P.underlying dT=some (.slice elem))(hi:P.info? elem=some i)
 (hg:w.heap[g]? =some (.cells cur t (0,0))) (hn:cs.length=Nat.min sLen dLen*i.size)
 (hsrc:∀j v,cs[j]? =some v->w.cell? (a.add j)=some v) (hfit:cs.length<=cur.size) (h1:∀v∈cs,v.oneCell'=true):
 (Builtin.copy_ #[dT,sT] ty #[.slice (some ⟨g,0,none⟩) dLen dCap,.slice (some a) sLen sCap]).run P w=
   .ok (goInt (Nat.min sLen dLen:Nat)) (w.setRow g (cs++cur.toList.drop cs.length).toArray):=by
 have hl:=run_loadCells_list (P:=P) w a cs hsrc
 have hst:=run_storeCells_at P g 0 t cs 0 cur w hg (by simpa using hfit) h1
 simp only[Nat.add_zero,Nat.zero_add,List.take_zero,List.nil_append]at hst
 simp[Builtin.copy_,run_underlying hu,Builtin.lenOf,Builtin.firstCells,sizeOf,typeInfo,hi,<-hn,hl,hst]
theorem make_pieces(n:Nat)(hn:n<=1000)(W:World):
 (Instr.makeSlice 47 (.int .i64 n) (.int .i64 n)).run Tryz.prog W=.ok (.slice (some ⟨W.heap.size,0,none⟩) n n) (W.alloc (.cells (madeCells #[.int .i64 0,.int .i64 0,.int .i64 0,.int .i64 0] (n*4)) 49)):=by
 obtain⟨i0,hi,hz0,hz1,hz2⟩:=info_parts info_piece
 have h:=run_make (P:=Tryz.prog) W 47 49 i0 (.agg #[.int .i64 0,.int .i64 0,.int .i64 0,.int .i64 0]) und_pieces hi hz0 .i64 .i64 n n (by omega) (Int.le_refl _) (by rw[hz2];omega) (by omega)
 rw[hz1]at h
 simpa[Value.cells]using h
theorem encPc_len(xs:List Pc):(xs.flatMap encPc).length=xs.length*4:=by
 induction xs with
 |nil=>rfl
 |cons x xs ih=>simp only[List.flatMap_cons,List.length_append,ih,List.length_cons];simp[encPc];omega
theorem sum_ge{α:Type}{f:α->Nat}:∀{l:List α},(∀x∈l,1<=f x)->l.length<=(l.map f).sum
 |[],_=>Nat.le_refl _
 |x::l,h=>by
  have h1:=h x (by simp)
  have h2:=sum_ge (f:=f) (l:=l) (λy hy=>h y (by simp[hy]))
  simp only[List.length_cons,List.map_cons,List.sum_cons]
  omega
theorem pc_pos{f:Nat}(h0:0<f)(hf:f<1024):1<=pc10 f:=by
 have:=(bits_ok h0 hf).pc
 omega
theorem mend_len{lies:Nat->Bool}{wt:Nat->Nat}{n:Nat}(hs:Singles lies n)(hn:n<=10)(hw:∀f,0<f->f<2^n->wt f<=36):(mendL lies wt n).length<=10:=by
 have hp:=Nat.two_pow_pos n
 have h1024:=pow_le_1024 hn
 obtain⟨h1,h2,_⟩:=out_ok hs hn hw (2^n) (2^n-1) (by omega) (by omega)
 have h3:=sum_ge (f:=pc10) (l:=mendL lies wt n) (λf hf=>by
  obtain⟨a1,a2,_⟩:=h1 f hf
  have:=sub_le a2
  exact pc_pos a1 (by omega))
 have h4:((mendL lies wt n).map pc10).sum=pc10 (2^n-1):=h2
 have h5:=pc_le (b:=2^n-1) (n:=n) (by omega) hn
 omega
set_option maxRecDepth 100000 in
set_option maxHeartbeats 2000000 in
theorem Patches_ok(RA:Option Addr)(rn rc most cn:Nat)(rows:List ByteArray)(w:World)(hs:Sl 1 encB8 w w.heap.size RA rn rc rows)(hok:ShOk rn cn most rows)(h10:(knN (atB rows 111) cn rn 0).length<=10)(h35:∀a c,atB rows 35 a c=false):
 Calls Tryz.prog 24 #[.agg #[.slice RA rn rc,.int .i64 (most:Nat)]] w λe w'=>∃G,e=.returned (.tuple #[.slice (some ⟨G,0,none⟩) (mendL (liesQ rn cn most (knN (atB rows 111) cn rn 0)) (wtQ (knN (atB rows 111) cn rn 0)) (knN (atB rows 111) cn rn 0).length).length (mendL (liesQ rn cn most (knN (atB rows 111) cn rn 0)) (wtQ (knN (atB rows 111) cn rn 0)) (knN (atB rows 111) cn rn 0).length).length,.int .i64 0])/\Below w.heap.size w w':=by
 have Ho:=Lib.hid (λW(hb:Below w.heap.size w W)=>open_be RA rn rc most cn rows W (hs.later (w':=W) hb) hok h10)
 have Hm:=Lib.hid (λT p W(hbe:Be p T W)(hof:BeOf p rn cn most rows)=>by
  have hcl:=hof.clear h35 hok.m1
  have h1:=mend_be p T W hbe (singles_clear hcl)
  have h2:=mend_len (singles_clear hcl) hbe.n10 (λf h0 hn=>wtN_le (p:=p) (sb:=f) h0 hn hbe.bd)
  rw[lieB_clear hcl.nz,wtN_is,hof.hrn,hof.hcn,hof.hmost,hof.hks]at h1 h2
  exact And.intro h1 h2)
 clear hs hok h10 h35
 obtain⟨ks,hks⟩:∃ks,knN (atB rows 111) cn rn 0=ks:=⟨_,rfl⟩
 rw[hks]at Hm ⊢
 obtain⟨L,hL⟩:∃L,mendL (liesQ rn cn most ks) (wtQ ks) ks.length=L:=⟨_,rfl⟩
 rw[hL]at Hm ⊢
 clear hks hL
 obtain⟨xs,hxs⟩:∃xs,L.map (leastP ks)=xs:=⟨_,rfl⟩
 obtain⟨n,hn⟩:∃n,L.length=n:=⟨_,rfl⟩
 have hnx:xs.length=n:=by rw[<-hxs,List.length_map,hn]
 have Hx:=Lib.hid hxs
 have Hn:=Lib.hid hn
 have Hnx:=Lib.hid hnx
 rw[hn]
 clear hxs hn hnx
 go_enter Tryz.func24,Tryz.ntmps24
 go_wp2_with fail
 refine(Ho.out _ (balloc (brefl w) _)).mono ?_
 rintro e w1⟨T,p,rfl,hb1,hbe,hof⟩
 have HB:=Lib.hid (Below.later (balloc (brefl w) _) hb1)
 have hme:=Hm.out T p w1 hbe hof
 have Hme:=Lib.hid hme.1
 have Hl:=Lib.hid (show n<=10 by rw[<-Hn.out];exact hme.2)
 clear hb1 hbe hof hme Hm
 go_wp2_with fail
 refine Hme.out.mono ?_
 rintro e w2⟨v,rfl,hb2,hown⟩
 have HB2:=Lib.hid (Below.later HB.out hb2)
 clear hb2
 rw[Hx.out,Hn.out]at hown
 have hmk:=make_pieces n (by have:=Hl.out;omega)
 obtain⟨i0,hi,hz0,hz1,hz2⟩:=info_parts info_piece
 have hblk:(w2.alloc (.cells (madeCells #[.int .i64 0,.int .i64 0,.int .i64 0,.int .i64 0] (n*4)) 49)).heap[w2.heap.size]? =some (.cells (madeCells #[.int .i64 0,.int .i64 0,.int .i64 0,.int .i64 0] (n*4)) 49 (0,0)):=World.alloc_heap_new w2 _
 have hxl:=encPc_len xs
 rw[Hnx.out]at hxl
 have hmin:Nat.min n n=n:=Nat.min_self n
 rcases hown.2 with⟨rfl,h0⟩|⟨g,cap,cur,rfl,hg0,hg,hcap,hmax,hsz,htake⟩
 ·subst h0
  have hmk0:∀W:World,(Instr.makeSlice 47 (.int .i64 0) (.int .i64 0)).run Tryz.prog W=.ok (.slice (some ⟨W.heap.size,0,none⟩) 0 0) (W.alloc (.cells #[] 49)):=λW=>by
   have h:=make_pieces 0 (by omega) W
   have h2:madeCells #[Value.int .i64 0,.int .i64 0,.int .i64 0,.int .i64 0] (0*4)=#[]:=by apply Array.eq_empty_of_size_eq_zero;simp[madeCells]
   rw[h2]at h
   exact h
  have hcp:=λty=>run_copy_nil (P:=Tryz.prog) (w2.alloc (.cells #[] 49)) 47 47 ty 49 ⟨w2.heap.size,0,none⟩ 0 0 und_pieces (by rw[hi];rfl)
  have HG:=Lib.hid (balloc HB2.out (.cells #[] 49))
  clear hown hblk hxl hmk
  go_wp2
  go_ret2
  exact⟨w2.heap.size,rfl,HG.out⟩
 ·have hcp:=λty=>run_copy_pc (P:=Tryz.prog) (w2.alloc (.cells (madeCells #[.int .i64 0,.int .i64 0,.int .i64 0,.int .i64 0] (n*4)) 49)) 47 47 ty 49 w2.heap.size n n ⟨g,0,none⟩ n cap _ _ (xs.flatMap encPc) i0 und_pieces hi hblk (by rw[hz1,hmin];exact hxl)
   (λj u hu=>(hown.alloc _).cells rfl j u hu) (by rw[hxl];simp[madeCells]) (by
     intro u hu
     obtain⟨x,_,hx⟩:=List.mem_flatMap.1 hu
     simp[encPc]at hx
     rcases hx with rfl|rfl|rfl|rfl<;>rfl)
  simp only[hmin]at hcp
  obtain⟨W3,hW3⟩:∃W3,(w2.alloc (.cells (madeCells #[.int .i64 0,.int .i64 0,.int .i64 0,.int .i64 0] (n*4)) 49)).setRow w2.heap.size ((xs.flatMap encPc)++(madeCells #[Value.int .i64 0,.int .i64 0,.int .i64 0,.int .i64 0] (n*4)).toList.drop (xs.flatMap encPc).length).toArray=W3:=⟨_,rfl⟩
  have hg3:Below w.heap.size w W3:=by
   rw[<-hW3];exact below_setRow (balloc HB2.out _) HB2.out.size _
  rw[hW3]at hcp
  have HG:=Lib.hid hg3
  clear hown hblk hxl hg3 hW3 htake hg
  go_wp2
  go_ret2
  exact⟨w2.heap.size,rfl,HG.out⟩
set_option maxRecDepth 100000 in
set_option maxHeartbeats 1000000 in
theorem Fewest_ok(RA:Option Addr)(rn rc most cn:Nat)(rows:List ByteArray)(w:World)(hs:Sl 1 encB8 w w.heap.size RA rn rc rows)(hok:ShOk rn cn most rows)(h10:(knN (atB rows 111) cn rn 0).length<=10)(h35:∀a c,atB rows 35 a c=false):
 Calls Tryz.prog 7 #[.agg #[.slice RA rn rc,.int .i64 (most:Nat)]] w λe w'=>e=.returned (.tuple #[.int .i64 ((mendL (liesQ rn cn most (knN (atB rows 111) cn rn 0)) (wtQ (knN (atB rows 111) cn rn 0)) (knN (atB rows 111) cn rn 0).length).length:Nat),.int .i64 0])/\Below w.heap.size w w':=by
 have Hp:=Lib.hid (λW(hb:Below w.heap.size w W)=>Patches_ok RA rn rc most cn rows W (hs.later (w':=W) hb) hok h10 h35)
 clear hs hok h10 h35
 obtain⟨n,hn⟩:∃n,(mendL (liesQ rn cn most (knN (atB rows 111) cn rn 0)) (wtQ (knN (atB rows 111) cn rn 0)) (knN (atB rows 111) cn rn 0).length).length=n:=⟨_,rfl⟩
 rw[hn]at Hp ⊢
 clear hn
 go_enter Tryz.func7,Tryz.ntmps7
 go_wp2_with fail
 refine(Hp.out _ (balloc (brefl w) _)).mono ?_
 rintro e w1⟨G,rfl,hb1⟩
 have HB:=Lib.hid (Below.later (balloc (brefl w) _) hb1)
 clear hb1 Hp
 go_wp2
 go_ret2
 exact⟨rfl,HB.out⟩
end Go.Proofs.YtifehdoghfnhoaaGreatDoor.Pa
namespace Go.Proofs.YtifehdoghfnhoaaGreatDoor.Pa
open Go.RowKit Go.Shelf Go.Proofs.YtifehdoghfnhoaaGreatDoor.C
def castL(l:List Nat):List Int:=l.map λx:Nat=>(x:Int)
theorem castL_len(l:List Nat):(castL l).length=l.length:=by simp[castL]
theorem castL_mem{l:List Nat}{x:Int}(h:x∈castL l):∃y:Nat,x=(y:Int)/\y∈l:=by
 obtain⟨y,hy,rfl⟩:=List.mem_map.1 h
 exact⟨y,rfl,hy⟩
end Go.Proofs.YtifehdoghfnhoaaGreatDoor.Pa
