/- Patch: the longest list of knots that are alone. -/
import Derived.Test.YtifehdoghfnhoaaGreatDoorZPbC
import Derived.Test.YtifehdoghfnhoaaGreatDoorZPbI
import Derived.Test.YtifehdoghfnhoaaGreatDoorZPbK
import Derived.Laws.CopyOwn
namespace Go.Proofs.YtifehdoghfnhoaaGreatDoor.Pa
open Go.RowKit Go.Shelf Go.Proofs.YtifehdoghfnhoaaGreatDoor.C
theorem knN_mem{o:Nat->Nat->Bool}{cn:Nat}{x:Nat×Nat}:∀{i k:Nat},x∈knN o cn i k->((x.1<i/\x.2<cn)\/(x.1=i/\x.2<k))/\o x.1 x.2=true
 |0,k,h=>by
  obtain⟨c,hc,rfl⟩:=List.mem_map.1 h
  obtain⟨h1,h2⟩:=List.mem_filter.1 hc
  exact⟨.inr ⟨rfl,List.mem_range.1 h1⟩,h2⟩
 |i+1,k,h=>by
  rcases List.mem_append.1 h with h|h
  ·obtain⟨h1,h2⟩:=knN_mem h
   refine⟨.inl ?_,h2⟩
   rcases h1 with h1|h1<;>omega
  ·obtain⟨c,hc,rfl⟩:=List.mem_map.1 h
   obtain⟨h1,h2⟩:=List.mem_filter.1 hc
   exact⟨.inr ⟨rfl,List.mem_range.1 h1⟩,h2⟩
theorem cntF_none{h:Nat->Nat->Bool}(hh:∀a c,h a c=false):∀r c,cntF h r c=0
 |0,c=>rfl
 |r+1,c=>by
  have:rowc h r c=0:=by
   unfold rowc
   rw[List.filter_eq_nil_iff.2 (λx _=>by rw[hh];simp)]
   rfl
  simp[cntF,cntF_none hh r c,this]
theorem figC_none{h:Nat->Nat->Bool}(hh:∀a c,h a c=false)(cn i k:Nat):nzF (figC h cn i k)=false:=by
 unfold nzF
 have:((List.range 49).all λx=>Nat.beq (figC h cn i k x) 0)=true:=by
  rw[List.all_eq_true]
  intro x _
  have:figC h cn i k x=0:=by
   unfold figC
   simp only[cntF_none hh]
   split
   ·rfl
   ·split<;>rfl
  rw[this]
  rfl
 rw[this]
 rfl
structure BeOf(p:BP)(rn cn most:Nat)(rows:List ByteArray):Prop where
 hrn:p.rn=rn
 hcn:p.rs.size=cn
 hmost:p.most=most
 hks:p.ks=knN (atB rows 111) cn rn 0
 hF:p.F=figC (atB rows 35) cn rn 0
theorem BeOf.clear{p:BP}{rn cn most:Nat}{rows:List ByteArray}(h:BeOf p rn cn most rows)(h1:∀a c,atB rows 35 a c=false)(hm:1<=most):Clear p:=by
 refine⟨by rw[h.hF];exact figC_none h1 _ _ _,λx hx=>?_,by rw[h.hmost];exact hm⟩
 rw[h.hks]at hx
 rw[h.hrn,h.hcn]
 rcases(knN_mem hx).1 with h2|h2<;>omega
set_option maxRecDepth 100000 in
set_option maxHeartbeats 1000000 in
theorem open_be(RA:Option Addr)(rn rc most cn:Nat)(rows:List ByteArray)(w:World)(hs:Sl 1 encB8 w w.heap.size RA rn rc rows)(hok:ShOk rn cn most rows)(h10:(knN (atB rows 111) cn rn 0).length<=10):
 Calls Tryz.prog 28 #[.agg #[.slice RA rn rc,.int .i64 (most:Nat)]] w λe w'=>∃T p,e=.returned (.tuple #[.pointer (some ⟨T,0,none⟩),.int .i64 0])/\Below w.heap.size w w'/\Be p T w'/\BeOf p rn cn most rows:=by
 have H:=open_ok RA rn rc most cn rows w hs hok
 have r1:=hok.r1
 have r6:=hok.r6
 have c6:=hok.c6
 have m36:=hok.m36
 obtain⟨b,o,r0,rfl,hb,hx,x0⟩:=ltB8 hs (show 0<rn by omega)
 rw[Nat.add_zero]at x0
 have hsz:=hok.sz r0 (List.mem_of_getElem? hx)
 refine H.mono ?_
 rintro e w'⟨T,v,V,rfl,hbV,hN⟩
 have hbel:=Below.later hbV hN.bel
 obtain⟨A,c,rfl,hsl⟩:=own_slG (k:=2) (enc:=encCl) (λ_=>rfl) hN.own rfl
 refine⟨T,⟨b,o,rn,rc,r0,most,figC (atB rows 35) cn rn 0,A,c,knN (atB rows 111) cn rn 0⟩,rfl,hbel,⟨⟨hN.b.lt,?_,?_,λi hi=>?_,?_,?_,r1,r6,?_,?_,λi hi=>figC_le _ _ _ _ hi⟩,⟨hN.b.lt,?_,hsl⟩,h10,λx hx=>?_⟩,⟨rfl,hsz,rfl,rfl,rfl⟩⟩
 ·exact(hN.b.cell 0).trans ((benchA_low (show 0<3 by omega)).trans rfl)
 ·exact(hN.b.cell 1).trans ((benchA_low (show 1<3 by omega)).trans rfl)
 ·exact(hN.b.cell (3+i)).trans (benchA_get hi)
 ·exact Nat.lt_of_lt_of_le hb hbel.size
 ·exact(hbel.cell (p:=⟨b,o,none⟩) hb).trans x0
 ·show r0.size<=6
  omega
 ·show most<=1000
  omega
 ·exact(hN.b.cell 2).trans ((benchA_low (show 2<3 by omega)).trans rfl)
 ·rcases(knN_mem hx).1 with h2|h2<;>omega
end Go.Proofs.YtifehdoghfnhoaaGreatDoor.Pa
namespace Go.Proofs.YtifehdoghfnhoaaGreatDoor.Pa
open Go.RowKit Go.Shelf Go.Proofs.YtifehdoghfnhoaaGreatDoor.C
theorem run_copy_pc{P:Program}(w:World)(dT sT ty elem:TypeId)(g dLen dCap:Nat)(a:Addr)(sLen sCap:Nat)(cur:Array Value)(t:TypeId)(cs:List Value)(i:TypeInfo)
 (hu:P.underlying dT=some (.slice elem))(hi:P.info? elem=some i)
 (hg:w.heap[g]? =some (.cells cur t (0,0))) (hn:cs.length=Nat.min sLen dLen*i.size)
 (hsrc:∀j v,cs[j]? =some v->w.cell? (a.add j)=some v) (hfit:cs.length<=cur.size) (h1:∀v∈cs,v.oneCell'=true):
 (Builtin.copy_ #[dT,sT] ty #[.slice (some ⟨g,0,none⟩) dLen dCap,.slice (some a) sLen sCap]).run P w=
   .ok (goInt (Nat.min sLen dLen:Nat)) (w.setRow g (cs++cur.toList.drop cs.length).toArray):=by
 have hl:=run_loadCells_list (P:=P) w a cs hsrc
 have hst:=run_storeCells_at P g 0 t cs 0 cur w hg (by simpa using hfit) h1
 simp only[Nat.add_zero,Nat.zero_add,List.take_zero,List.nil_append]at hst
 simp[Builtin.copy_,run_underlying hu,Builtin.lenOf,Builtin.firstCells,sizeOf,typeInfo,hi,<-hn,hl,hst]
theorem make_pieces(n:Nat)(hn:n<=1000)(W:World):
 (Instr.makeSlice 47 (.int .i64 n) (.int .i64 n)).run Tryz.prog W=.ok (.slice (some ⟨W.heap.size,0,none⟩) n n) (W.alloc (.cells (madeCells #[.int .i64 0,.int .i64 0,.int .i64 0,.int .i64 0] (n*4)) 49)):=by
 obtain⟨i0,hi,hz0,hz1,hz2⟩:=info_parts info_piece
 have h:=run_make (P:=Tryz.prog) W 47 49 i0 (.agg #[.int .i64 0,.int .i64 0,.int .i64 0,.int .i64 0]) und_pieces hi hz0 .i64 .i64 n n (by omega) (Int.le_refl _) (by rw[hz2];omega) (by omega)
 rw[hz1]at h
 simpa[Value.cells]using h
theorem encPc_len(xs:List Pc):(xs.flatMap encPc).length=xs.length*4:=by
 induction xs with
 |nil=>rfl
 |cons x xs ih=>simp only[List.flatMap_cons,List.length_append,ih,List.length_cons];simp[encPc];omega
theorem sum_ge{α:Type}{f:α->Nat}:∀{l:List α},(∀x∈l,1<=f x)->l.length<=(l.map f).sum
 |[],_=>Nat.le_refl _
 |x::l,h=>by
  have h1:=h x (by simp)
  have h2:=sum_ge (f:=f) (l:=l) (λy hy=>h y (by simp[hy]))
  simp only[List.length_cons,List.map_cons,List.sum_cons]
  omega
theorem pc_pos{f:Nat}(h0:0<f)(hf:f<1024):1<=pc10 f:=by
 have:=(bits_ok h0 hf).pc
 omega
theorem mend_len{lies:Nat->Bool}{wt:Nat->Nat}{n:Nat}(hs:Singles lies n)(hn:n<=10)(hw:∀f,0<f->f<2^n->wt f<=36):(mendL lies wt n).length<=10:=by
 have hp:=Nat.two_pow_pos n
 have h1024:=pow_le_1024 hn
 obtain⟨h1,h2,_⟩:=out_ok hs hn hw (2^n) (2^n-1) (by omega) (by omega)
 have h3:=sum_ge (f:=pc10) (l:=mendL lies wt n) (λf hf=>by
  obtain⟨a1,a2,_⟩:=h1 f hf
  have:=sub_le a2
  exact pc_pos a1 (by omega))
 have h4:((mendL lies wt n).map pc10).sum=pc10 (2^n-1):=h2
 have h5:=pc_le (b:=2^n-1) (n:=n) (by omega) hn
 omega
set_option maxRecDepth 100000 in
set_option maxHeartbeats 2000000 in
theorem Patches_ok(RA:Option Addr)(rn rc most cn:Nat)(rows:List ByteArray)(w:World)(hs:Sl 1 encB8 w w.heap.size RA rn rc rows)(hok:ShOk rn cn most rows)(h10:(knN (atB rows 111) cn rn 0).length<=10)(h35:∀a c,atB rows 35 a c=false):
 Calls Tryz.prog 24 #[.agg #[.slice RA rn rc,.int .i64 (most:Nat)]] w λe w'=>∃G,e=.returned (.tuple #[.slice (some ⟨G,0,none⟩) (mendL (liesQ rn cn most (knN (atB rows 111) cn rn 0)) (wtQ (knN (atB rows 111) cn rn 0)) (knN (atB rows 111) cn rn 0).length).length (mendL (liesQ rn cn most (knN (atB rows 111) cn rn 0)) (wtQ (knN (atB rows 111) cn rn 0)) (knN (atB rows 111) cn rn 0).length).length,.int .i64 0])/\Below w.heap.size w w':=by
 have Ho:=Lib.hid (λW(hb:Below w.heap.size w W)=>open_be RA rn rc most cn rows W (hs.later (w':=W) hb) hok h10)
 have Hm:=Lib.hid (λT p W(hbe:Be p T W)(hof:BeOf p rn cn most rows)=>by
  have hcl:=hof.clear h35 hok.m1
  have h1:=mend_be p T W hbe (singles_clear hcl)
  have h2:=mend_len (singles_clear hcl) hbe.n10 (λf h0 hn=>wtN_le (p:=p) (sb:=f) h0 hn hbe.bd)
  rw[lieB_clear hcl.nz,wtN_is,hof.hrn,hof.hcn,hof.hmost,hof.hks]at h1 h2
  exact And.intro h1 h2)
 clear hs hok h10 h35
 obtain⟨ks,hks⟩:∃ks,knN (atB rows 111) cn rn 0=ks:=⟨_,rfl⟩
 rw[hks]at Hm ⊢
 obtain⟨L,hL⟩:∃L,mendL (liesQ rn cn most ks) (wtQ ks) ks.length=L:=⟨_,rfl⟩
 rw[hL]at Hm ⊢
 clear hks hL
 obtain⟨xs,hxs⟩:∃xs,L.map (leastP ks)=xs:=⟨_,rfl⟩
 obtain⟨n,hn⟩:∃n,L.length=n:=⟨_,rfl⟩
 have hnx:xs.length=n:=by rw[<-hxs,List.length_map,hn]
 have Hx:=Lib.hid hxs
 have Hn:=Lib.hid hn
 have Hnx:=Lib.hid hnx
 rw[hn]
 clear hxs hn hnx
 go_enter Tryz.func24,Tryz.ntmps24
 go_wp2_with fail
 refine(Ho.out _ (balloc (brefl w) _)).mono ?_
 rintro e w1⟨T,p,rfl,hb1,hbe,hof⟩
 have HB:=Lib.hid (Below.later (balloc (brefl w) _) hb1)
 have hme:=Hm.out T p w1 hbe hof
 have Hme:=Lib.hid hme.1
 have Hl:=Lib.hid (show n<=10 by rw[<-Hn.out];exact hme.2)
 clear hb1 hbe hof hme Hm
 go_wp2_with fail
 refine Hme.out.mono ?_
 rintro e w2⟨v,rfl,hb2,hown⟩
 have HB2:=Lib.hid (Below.later HB.out hb2)
 clear hb2
 rw[Hx.out,Hn.out]at hown
 have hmk:=make_pieces n (by have:=Hl.out;omega)
 obtain⟨i0,hi,hz0,hz1,hz2⟩:=info_parts info_piece
 have hblk:(w2.alloc (.cells (madeCells #[.int .i64 0,.int .i64 0,.int .i64 0,.int .i64 0] (n*4)) 49)).heap[w2.heap.size]? =some (.cells (madeCells #[.int .i64 0,.int .i64 0,.int .i64 0,.int .i64 0] (n*4)) 49 (0,0)):=World.alloc_heap_new w2 _
 have hxl:=encPc_len xs
 rw[Hnx.out]at hxl
 have hmin:Nat.min n n=n:=Nat.min_self n
 rcases hown.2 with⟨rfl,h0⟩|⟨g,cap,cur,rfl,hg0,hg,hcap,hmax,hsz,htake⟩
 ·subst h0
  have hmk0:∀W:World,(Instr.makeSlice 47 (.int .i64 0) (.int .i64 0)).run Tryz.prog W=.ok (.slice (some ⟨W.heap.size,0,none⟩) 0 0) (W.alloc (.cells #[] 49)):=λW=>by
   have h:=make_pieces 0 (by omega) W
   have h2:madeCells #[Value.int .i64 0,.int .i64 0,.int .i64 0,.int .i64 0] (0*4)=#[]:=by apply Array.eq_empty_of_size_eq_zero;simp[madeCells]
   rw[h2]at h
   exact h
  have hcp:=λty=>run_copy_nil (P:=Tryz.prog) (w2.alloc (.cells #[] 49)) 47 47 ty 49 ⟨w2.heap.size,0,none⟩ 0 0 und_pieces (by rw[hi];rfl)
  have HG:=Lib.hid (balloc HB2.out (.cells #[] 49))
  clear hown hblk hxl hmk
  go_wp2
  go_ret2
  exact⟨w2.heap.size,rfl,HG.out⟩
 ·have hcp:=λty=>run_copy_pc (P:=Tryz.prog) (w2.alloc (.cells (madeCells #[.int .i64 0,.int .i64 0,.int .i64 0,.int .i64 0] (n*4)) 49)) 47 47 ty 49 w2.heap.size n n ⟨g,0,none⟩ n cap _ _ (xs.flatMap encPc) i0 und_pieces hi hblk (by rw[hz1,hmin];exact hxl)
   (λj u hu=>(hown.alloc _).cells rfl j u hu) (by rw[hxl];simp[madeCells]) (by
     intro u hu
     obtain⟨x,_,hx⟩:=List.mem_flatMap.1 hu
     simp[encPc]at hx
     rcases hx with rfl|rfl|rfl|rfl<;>rfl)
  simp only[hmin]at hcp
  obtain⟨W3,hW3⟩:∃W3,(w2.alloc (.cells (madeCells #[.int .i64 0,.int .i64 0,.int .i64 0,.int .i64 0] (n*4)) 49)).setRow w2.heap.size ((xs.flatMap encPc)++(madeCells #[Value.int .i64 0,.int .i64 0,.int .i64 0,.int .i64 0] (n*4)).toList.drop (xs.flatMap encPc).length).toArray=W3:=⟨_,rfl⟩
  have hg3:Below w.heap.size w W3:=by
   rw[<-hW3];exact below_setRow (balloc HB2.out _) HB2.out.size _
  rw[hW3]at hcp
  have HG:=Lib.hid hg3
  clear hown hblk hxl hg3 hW3 htake hg
  go_wp2
  go_ret2
  exact⟨w2.heap.size,rfl,HG.out⟩
set_option maxRecDepth 100000 in
set_option maxHeartbeats 1000000 in
theorem Fewest_ok(RA:Option Addr)(rn rc most cn:Nat)(rows:List ByteArray)(w:World)(hs:Sl 1 encB8 w w.heap.size RA rn rc rows)(hok:ShOk rn cn most rows)(h10:(knN (atB rows 111) cn rn 0).length<=10)(h35:∀a c,atB rows 35 a c=false):
 Calls Tryz.prog 7 #[.agg #[.slice RA rn rc,.int .i64 (most:Nat)]] w λe w'=>e=.returned (.tuple #[.int .i64 ((mendL (liesQ rn cn most (knN (atB rows 111) cn rn 0)) (wtQ (knN (atB rows 111) cn rn 0)) (knN (atB rows 111) cn rn 0).length).length:Nat),.int .i64 0])/\Below w.heap.size w w':=by
 have Hp:=Lib.hid (λW(hb:Below w.heap.size w W)=>Patches_ok RA rn rc most cn rows W (hs.later (w':=W) hb) hok h10 h35)
 clear hs hok h10 h35
 obtain⟨n,hn⟩:∃n,(mendL (liesQ rn cn most (knN (atB rows 111) cn rn 0)) (wtQ (knN (atB rows 111) cn rn 0)) (knN (atB rows 111) cn rn 0).length).length=n:=⟨_,rfl⟩
 rw[hn]at Hp ⊢
 clear hn
 go_enter Tryz.func7,Tryz.ntmps7
 go_wp2_with fail
 refine(Hp.out _ (balloc (brefl w) _)).mono ?_
 rintro e w1⟨G,rfl,hb1⟩
 have HB:=Lib.hid (Below.later (balloc (brefl w) _) hb1)
 clear hb1 Hp
 go_wp2
 go_ret2
 exact⟨rfl,HB.out⟩
end Go.Proofs.YtifehdoghfnhoaaGreatDoor.Pa
namespace Go.Proofs.YtifehdoghfnhoaaGreatDoor.Pa
open Go.RowKit Go.Shelf Go.Proofs.YtifehdoghfnhoaaGreatDoor.C
def castL(l:List Nat):List Int:=l.map λx:Nat=>(x:Int)
theorem castL_len(l:List Nat):(castL l).length=l.length:=by simp[castL]
theorem castL_app(l:List Nat)(i:Nat):castL (l++[i])=castL l++[(i:Int)]:=by simp[castL]
theorem castL_any(l:List Nat)(f:Nat->Bool):(castL l).any (λx=>f x.toNat)=l.any f:=by
 unfold castL
 rw[List.any_map]
 rfl
theorem castL_mem{l:List Nat}{x:Int}(h:x∈castL l):∃y:Nat,x=(y:Int)/\y∈l:=by
 obtain⟨y,hy,rfl⟩:=List.mem_map.1 h
 exact⟨y,rfl,hy⟩
theorem IS.later{xs:List Int}{v:Value}{W W':World}(h:IS xs v W)(hb:Below W.heap.size W W'):IS xs v W':=IS.stab xs v W W' hb h
set_option maxHeartbeats 1000000 in
theorem aloneC(p:BP)(T k i P I:Nat)(w:World)(h:Be p T w)(hk:k<p.ks.length)(hi:i<p.ks.length)(h1:w.cell? ⟨P,0,none⟩=some (.pointer (some ⟨T,0,none⟩)))(h2:w.cell? ⟨I,0,none⟩=some (.int .i64 (i:Nat)))(_h3:P<w.heap.size)(_h4:I<w.heap.size):
 Calls Tryz.prog 54 #[.int .i64 (k:Nat),.pointer (some ⟨P,0,none⟩),.pointer (some ⟨I,0,none⟩)] w λe w'=>e=.returned (.bool (shareP p k i))/\Below w.heap.size w w':=by
 have H:=Lib.hid (share_be p T k i w h hk hi)
 clear h hk hi
 go_enter Tryz.func54,Tryz.ntmps54
 go_wp2_with fail
 refine H.out.mono ?_
 rintro e w1⟨rfl,hb1⟩
 have HB:=Lib.hid hb1
 clear hb1
 go_wp2
 go_ret
 exact⟨rfl,HB.out⟩
structure AW(T:Nat)(w W:World)(I i:Nat):Prop where
 bel:Below w.heap.size w W
 b3:Blk W w.heap.size 77 #[.pointer (some ⟨T,0,none⟩)]
 bi:Blk W I 3 #[.int .i64 (i:Nat)]
section
variable{T:Nat}{w W W':World}{I i:Nat}
theorem AW.later(h:AW T w W I i)(hb:Below W.heap.size W W'):AW T w W' I i:=⟨Below.later h.bel hb,h.b3.later hb,h.bi.later hb⟩
theorem AW.cells(h:AW T w W I i):W.cell? ⟨w.heap.size,0,none⟩=some (.pointer (some ⟨T,0,none⟩))/\w.heap.size<W.heap.size/\W.cell? ⟨I,0,none⟩=some (.int .i64 (i:Nat))/\I<W.heap.size:=⟨h.b3.cell 0,h.b3.lt,h.bi.cell 0,h.bi.lt⟩
theorem AW.next(h:AW T w W I i):AW T w (W.alloc (.cells #[.int .i64 ((i:Int)+1)] 3)) W.heap.size (i+1):=
 ⟨Below.later h.bel (balloc (brefl W) _),h.b3.alloc _,Blk.new W 3 #[.int .i64 ((i:Int)+1)]⟩
end
set_option maxRecDepth 100000 in
set_option maxHeartbeats 16000000 in
theorem alone_be(p:BP)(T:Nat):∀(k:Nat)(begun:List Nat)(v:Value)(w:World),Be p T w->k<=p.ks.length->(∀x∈begun,x<p.ks.length)->begun.length+k<=p.ks.length->IS (castL begun) v w->
 Calls Tryz.prog 29 #[.pointer (some ⟨T,0,none⟩),v,.int .i64 ((p.ks.length-k:Nat):Int)] w λe w'=>∃v',e=.returned v'/\Below w.heap.size w w'/\IS (castL (aloneG (shareP p) p.ks.length k begun begun)) v' w':=by
 intro k
 induction k using Nat.strongRecOn with
 |_ k ih=>
 intro begun v w h hkn hbd hbl hIS
 have n10:=h.n10
 have Hbe:=Lib.hid h
 have Hbd:=Lib.hid hbd
 obtain⟨fr,hfr⟩:∃f,p.ks.length-k=f:=⟨_,rfl⟩
 have HA0:=Lib.hid (show AW T w ((w.alloc (.cells #[.pointer (some ⟨T,0,none⟩)] 77)).alloc (.cells #[.int .i64 (fr:Nat)] 3)) (w.heap.size+1) (p.ks.length-k)from by
  have h5:=Blk.new (w.alloc (.cells #[.pointer (some ⟨T,0,none⟩)] 77)) 3 #[.int .i64 (fr:Nat)]
  rw[World.size_alloc]at h5
  rw[hfr]
  exact⟨balloc (balloc (brefl w) _) _,(Blk.new w _ _).alloc _,h5⟩)
 rw[hfr]
 have HIh:=Lib.hid ih
 obtain⟨res,hres⟩:∃r,aloneG (shareP p) p.ks.length k begun begun=r:=⟨_,rfl⟩
 rw[hres]
 have Hres:=Lib.hid hres
 have Hn:=Lib.hid (show p.ks.length<=10/\k<=p.ks.length/\begun.length+k<=p.ks.length from⟨n10,hkn,hbl⟩)
 have HS0:=Lib.hid hIS
 have Hk:=Lib.hid (λW(hb:Below w.heap.size w W)=>(And.intro ((hb.cell (p:=⟨T,2,none⟩) h.kn.lt).trans h.kn.c2) (Nat.lt_of_lt_of_le h.kn.lt hb.size)))
 obtain⟨A,c,rfl,hsl,hnil⟩:=hIS
 have HSl:=Lib.hid hsl
 have HNil:=Lib.hid hnil
 have hcap:=hsl.cap
 obtain⟨bl,hbl2⟩:∃x,(castL begun).length=x:=⟨_,rfl⟩
 have Hbl:=Lib.hid (show bl=begun.length by rw[<-hbl2,castL_len])
 rw[hbl2]at HSl hcap HS0 ⊢
 obtain⟨bs,hbs⟩:∃x,castL begun=x:=⟨_,rfl⟩
 have Hbs:=Lib.hid hbs
 rw[hbs]at HSl HNil HS0
 clear ih h hbd hfr hres hkn hbl hsl hnil hbl2 hbs n10
 go_enter Tryz.func29,Tryz.ntmps29
 go_wp2_with fail
 refine loop_n (λq a W=>a.defers=[]/\∃(I:Nat)(out:List Nat)(v':Value),q<=k/\aloneG (shareP p) p.ks.length q begun out=res/\AW T w W I (p.ks.length-q)/\IS (castL out) v' W/\Fits (some (.pointer (some ⟨T,0,none⟩))::some (.slice A bl c)::none::some (.pointer (some ⟨w.heap.size,0,none⟩))::none::none::none::some (v')::some (.pointer (some ⟨I,0,none⟩))::none::none::none::none::none::none::none::none::none::none::none::none::none::none::none::none::none::none::none::none::none::none::none::none::none::none::none::none::none::none::none::none::none::none::none::none::[]) a.tmps.toList) k ?_ ?_
 ·refine⟨rfl,w.heap.size+1,begun,.slice A bl c,Nat.le_refl _,Hres.out,HA0.out,?_,?_⟩
  ·rw[Hbs.out]
   exact HS0.out.later HA0.out.bel
  repeat (first|exact fits_nil|refine fits_none ?_|refine fits_some ?_)
 clear HA0 Hres
 intro q a W hI K1 hK
 obtain⟨hds,I,out,v',hqk,hgo,hA,hv',hfit⟩:=hI
 obtain⟨f',hf'⟩:=fits_act hfit
 rw[hds]at hf'
 subst hf'
 clear hfit hds
 simp only[fillP,Nat.reduceAdd]
 have HK:=Lib.hid (@hK)
 obtain⟨i,hi⟩:∃i,p.ks.length-q=i:=⟨_,rfl⟩
 rw[hi]at hA
 have Hi:=Lib.hid hi
 have HA:=Lib.hid hA
 have HO:=Lib.hid hv'
 have Hgo:=Lib.hid hgo
 have Hqk:=Lib.hid hqk
 clear hK hi hA hv' hgo hqk
 go_wp2_with fail
 refine dag 7 (by kernel_rfl) (by kernel_rfl) (.is ?_::.is ?_::.is ?_::.is ?_::.is ?_::.is ?_::.is ?_::[]) rfl ?st3 ?ob3
 case st3=>repeat (first|exact stab_nil|refine stab_is ?_)
 case ob3=>
 intro env V hG
 have HAV:=Lib.hid (HA.out.later hG)
 have HOV:=Lib.hid (HO.out.later hG)
 obtain⟨c0,c1,c2,c3⟩:=HAV.out.cells
 obtain⟨k1,k2⟩:=Hk.out V HAV.out.bel
 iterate 7 (refine obls_is ?_ ?_;unfold doesAt;go_simp;(try go_bits);(first|(refine⟨brefl _,?_⟩;rfl)|rfl);intro K hK;go_simp;refine hK _ ?_;clear hK K)
 refine obls_nil (λhok=>?_)
 clear hok
 by_cases hq0:q=0
 ·subst hq0
  have hin:i=p.ks.length:=by rw[<-Hi.out,Nat.sub_zero]
  have t1:decide (i<p.ks.length)=false:=by rw[hin];simp
  have t2:¬i<p.ks.length:=by omega
  have hro:out=res:=Hgo.out
  rw[hro]at HOV
  clear hin hro
  go_wp2_with fail
  go_ret
  exact⟨v',rfl,HAV.out.bel,HOV.out⟩
 ·obtain⟨j,hj⟩:∃j,q=j+1:=⟨q-1,by omega⟩
  subst hj
  have hilt:i<p.ks.length:=by have:=Hi.out;have:=Hn.out;have:=Hqk.out;omega
  have hij:i=p.ks.length-(j+1):=Hi.out.symm
  have Hilt:=Lib.hid hilt
  have Hij:=Lib.hid hij
  have t1:decide (i<p.ks.length)=true:=by simpa using hilt
  have t2:i<p.ks.length:=hilt
  have i3:IntKind.i64.wrap ((i:Int)+1)=((i+1:Nat):Int):=by rw[IntKind.wrap_i64];have:=Hn.out;omega
  clear hq0 hilt hij
  go_wp2_with fail
  refine(containsI 54 #[.pointer (some ⟨w.heap.size,0,none⟩),.pointer (some ⟨I,0,none⟩)] (enters_of Tryz.func54 (by kernel_rfl) rfl) (λx=>shareP p x.toNat i) A bl c bs V (HSl.out.later HAV.out.bel) ?_).mono ?_
  ·intro x W' hx hb'
   rw[<-Hbs.out]at hx
   obtain⟨y,rfl,hy⟩:=castL_mem hx
   have hA':=HAV.out.later hb'
   obtain⟨d0,d1,d2,d3⟩:=hA'.cells
   exact aloneC p T y i w.heap.size I W' (Hbe.out.later hA'.bel) (Hbd.out y hy) Hilt.out d0 d2 d1 d3
  rintro e w1⟨rfl,hb1⟩
  have HA1:=Lib.hid (HAV.out.later hb1)
  have HO1:=Lib.hid (HOV.out.later hb1)
  rw[<-Hbs.out,castL_any begun (λy=>shareP p y i)]
  clear hb1 HAV HOV c0 c1 c2 c3 k1 k2
  obtain⟨c0,c1,c2,c3⟩:=HA1.out.cells
  cases hany:begun.any (λy=>shareP p y i)with
  |true=>
   have hgo:=Hgo.out
   rw[aloneG_yes (by rw[<-Hij.out];exact hany)]at hgo
   have HAn:=Lib.hid (HA1.out.next)
   have HOn:=Lib.hid (HO1.out.later (balloc (brefl w1) (.cells #[.int .i64 ((i:Int)+1)] 3)))
   have Hgo2:=Lib.hid hgo
   clear hgo hany Hgo
   go_wp2_with fail
   refine HK.out _ _ j (by omega) ⟨rfl,w1.heap.size,out,v',by have:=Hqk.out;omega,Hgo2.out,?_,HOn.out,?_⟩
   ·rw[show p.ks.length-j=i+1 by have:=Hij.out;have:=Hilt.out;have:=Hqk.out;have:=Hn.out;omega]
    exact HAn.out
   repeat (first|exact fits_nil|refine fits_none ?_|refine fits_some ?_)
  |false=>
   have Hany:=Lib.hid hany
   clear hany
   obtain⟨l,hl⟩:∃l,aloneG (shareP p) p.ks.length j (begun++[i]) (begun++[i])=l:=⟨_,rfl⟩
   have hgo:=Hgo.out
   rw[aloneG_no (l:=l) (by rw[<-Hij.out];exact Hany.out) (by rw[<-Hij.out];exact hl)]at hgo
   have Hgo2:=Lib.hid hgo
   have HIj:=Lib.hid (λ(V:World)(u:Value)(hb:Below w.heap.size w V)(hu:IS (bs++[(i:Int)]) u V)=>by
    have h6:=HIh.out j (by have:=Hqk.out;omega) (begun++[i]) u V (Hbe.out.later hb) (by have:=Hqk.out;have:=Hn.out;omega) (λx hx=>by
     rcases List.mem_append.1 hx with hx|hx
     ·exact Hbd.out x hx
     ·rw[List.mem_singleton.1 hx];exact Hilt.out) (by have:=Hn.out;have:=Hqk.out;have:=Hij.out;have:=Hilt.out;simp;omega) (by rw[castL_app,Hbs.out];exact hu)
    rw[hl,show p.ks.length-j=i+1 by have:=Hij.out;have:=Hilt.out;have:=Hqk.out;have:=Hn.out;omega]at h6
    exact h6)
   obtain⟨ls,hls⟩:∃x,castL l=x:=⟨_,rfl⟩
   rw[hls]at HIj
   have Hls:=Lib.hid (show ls=castL l/\ls.length=l.length from⟨hls.symm,by rw[<-hls,castL_len]⟩)
   clear hgo Hgo hls
   go_wp2_with fail
   refine dag 14 (by kernel_rfl) (by kernel_rfl) (.is ?_::.is ?_::.is ?_::.is ?_::.is ?_::.is ?_::.is ?_::.is ?_::.like (OneI (i:Int))::.like (IS (bs++[(i:Int)]))::.is ?_::.is ?_::.like (IS ls)::.like (IS ls)::[]) rfl ?st6 ?ob6
   case st6=>repeat (first|exact stab_nil|refine stab_is ?_|refine stab_like OneI.stab ?_|refine stab_like (IS.stab _) ?_)
   case ob6=>
   intro env2 V2 hG2
   have HA2:=Lib.hid (HA1.out.later hG2)
   have HO2:=Lib.hid (HO1.out.later hG2)
   obtain⟨d0,d1,d2,d3⟩:=HA2.out.cells
   have HT2:=Lib.hid (HSl.out.later HA2.out.bel)
   iterate 8 (refine obls_is ?_ ?_;unfold doesAt;go_simp;(try go_bits);(first|(refine⟨brefl _,?_⟩;rfl)|rfl);intro K hK;go_simp;refine hK _ ?_;clear hK K)
   refine obls_like (λ_=>?_) ?_
   ·unfold doesAt
    go_simp
    have hbn:=Blk.new V2 3 #[.int .i64 (i:Nat)]
    exact⟨balloc (brefl _) _,_,rfl,hbn.lt,hbn.cell 0⟩
   intro K hK
   go_simp
   refine hK _ ?_
   clear hK K
   refine obls_like (λhl=>?_) ?_
   ·obtain⟨g,hg0,hg1,hg2⟩:OneI (i:Int) (env2 8) V2:=hl ⟨8,.data⟩ (by simp) rfl
    refine app_of_run rfl (.tmp 30) (.tmp 32) 43 rfl rfl hg0 ?_
    exact app_full _ HT2.out HNil.out hg2 (by have:=Hbl.out;have:=Hn.out;omega)
   intro K hK
   go_simp
   refine hK _ ?_
   clear hK K
   iterate 2 (refine obls_is ?_ ?_;unfold doesAt;go_simp;(try go_bits);(first|(refine⟨brefl _,?_⟩;rfl)|rfl);intro K hK;go_simp;refine hK _ ?_;clear hK K)
   refine obls_like (λhl=>?_) ?_
   ·have h3:IS (bs++[(i:Int)]) (env2 9) V2:=hl ⟨9,.data⟩ (by simp) rfl
    unfold doesAt
    go_simp
    refine(HIj.out V2 (env2 9) HA2.out.bel h3).mono ?_
    rintro e w3⟨u,rfl,hb3,hu⟩
    exact⟨u,rfl,hb3,hu⟩
   intro K hK
   go_simp
   refine hK _ ?_
   clear hK K
   refine obls_like (λhl=>?_) ?_
   ·have h3:IS ls (env2 12) V2:=hl ⟨12,.data⟩ (by simp) rfl
    unfold doesAt
    go_simp
    exact brefl V2
   intro K hK
   go_simp
   refine hK _ ?_
   clear hK K
   refine obls_nil (λhok=>?_)
   have h4:IS ls (env2 13) V2:=hok 13 _ rfl
   obtain⟨u,hu⟩:∃u,env2 13=u:=⟨_,rfl⟩
   rw[hu]at h4 ⊢
   have HU:=Lib.hid h4
   obtain⟨A2,e2,rfl,hsl2,hnil2⟩:=h4
   obtain⟨A3,e3,rfl,hsl3,hnil3⟩:=HO2.out
   have HO3:=Lib.hid HO2.out
   obtain⟨n3,hn3⟩:∃x,(castL out).length=x:=⟨_,rfl⟩
   obtain⟨n2,hn2⟩:∃x,ls.length=x:=⟨_,rfl⟩
   have Hn3:=Lib.hid (show out.length=n3/\l.length=n2 from⟨by rw[<-hn3,castL_len],by rw[<-hn2,Hls.out.2]⟩)
   rw[hn3]at HO3 ⊢
   rw[hn2]at HU ⊢
   have hgo:=Hgo2.out
   rw[Hn3.out.1,Hn3.out.2]at hgo
   have HAn:=Lib.hid (HA2.out.next)
   have HBn:=Lib.hid (balloc (brefl V2) (.cells #[.int .i64 ((i:Int)+1)] 3))
   clear hok hu hsl2 hnil2 hsl3 hnil3 hn2 hn3 HO2 HO1 HIj Hany
   by_cases hlt:n3<n2
   ·rw[if_pos hlt]at hgo
    have Hgo3:=Lib.hid hgo
    have t2:(n3:Int)<(n2:Int):=by omega
    clear hgo hlt
    go_wp2_with fail
    refine HK.out _ _ j (by omega) ⟨rfl,V2.heap.size,l,.slice A2 n2 e2,by have:=Hqk.out;omega,Hgo3.out,?_,?_,?_⟩
    ·rw[show p.ks.length-j=i+1 by have:=Hij.out;have:=Hilt.out;have:=Hqk.out;have:=Hn.out;omega]
     exact HAn.out
    ·rw[<-Hls.out.1]
     exact HU.out.later HBn.out
    repeat (first|exact fits_nil|refine fits_none ?_|refine fits_some ?_)
   ·rw[if_neg hlt]at hgo
    have Hgo3:=Lib.hid hgo
    have t2:¬((n3:Int)<(n2:Int)):=by omega
    clear hgo hlt
    go_wp2_with fail
    refine HK.out _ _ j (by omega) ⟨rfl,V2.heap.size,out,.slice A3 n3 e3,by have:=Hqk.out;omega,Hgo3.out,?_,HO3.out.later HBn.out,?_⟩
    ·rw[show p.ks.length-j=i+1 by have:=Hij.out;have:=Hilt.out;have:=Hqk.out;have:=Hn.out;omega]
     exact HAn.out
    repeat (first|exact fits_nil|refine fits_none ?_|refine fits_some ?_)
set_option maxRecDepth 100000 in
set_option maxHeartbeats 1000000 in
theorem Alone_ok(RA:Option Addr)(rn rc most cn:Nat)(rows:List ByteArray)(w:World)(hs:Sl 1 encB8 w w.heap.size RA rn rc rows)(hok:ShOk rn cn most rows)(h10:(knN (atB rows 111) cn rn 0).length<=10)(h35:∀a c,atB rows 35 a c=false):
 Calls Tryz.prog 10 #[.agg #[.slice RA rn rc,.int .i64 (most:Nat)]] w λe w'=>∃A c,e=.returned (.tuple #[.slice A (aloneG (shareQ rn cn most (knN (atB rows 111) cn rn 0)) (knN (atB rows 111) cn rn 0).length (knN (atB rows 111) cn rn 0).length [] []).length c,.int .i64 0])/\Below w.heap.size w w':=by
 have Ho:=Lib.hid (λW(hb:Below w.heap.size w W)=>open_be RA rn rc most cn rows W (hs.later (w':=W) hb) hok h10)
 have Hm:=Lib.hid (λT p W(hbe:Be p T W)(hof:BeOf p rn cn most rows)=>by
  have hcl:=hof.clear h35 hok.m1
  have h1:=alone_be p T p.ks.length [] (.slice none 0 0) W hbe (Nat.le_refl _) (λx hx=>by cases hx) (by simp) (IS.nil W)
  rw[shareP_clear hcl.nz,hof.hrn,hof.hcn,hof.hmost,hof.hks,Nat.sub_self]at h1
  exact h1)
 clear hs hok h10 h35
 obtain⟨ks,hks⟩:∃ks,knN (atB rows 111) cn rn 0=ks:=⟨_,rfl⟩
 rw[hks]at Hm ⊢
 obtain⟨L,hL⟩:∃L,aloneG (shareQ rn cn most ks) ks.length ks.length [] []=L:=⟨_,rfl⟩
 rw[hL]at Hm ⊢
 clear hks hL
 go_enter Tryz.func10,Tryz.ntmps10
 go_wp2_with fail
 refine(Ho.out _ (balloc (brefl w) _)).mono ?_
 rintro e w1⟨T,p,rfl,hb1,hbe,hof⟩
 have HB:=Lib.hid (Below.later (balloc (brefl w) _) hb1)
 have Hme:=Lib.hid (Hm.out T p w1 hbe hof)
 clear hb1 hbe hof Hm
 go_wp2_with fail
 refine Hme.out.mono ?_
 rintro e w2⟨v,rfl,hb2,A,c,rfl,_,_⟩
 have HB2:=Lib.hid (Below.later HB.out hb2)
 rw[castL_len]
 clear hb2
 go_wp2
 go_ret2
 exact⟨A,c,rfl,HB2.out⟩
end Go.Proofs.YtifehdoghfnhoaaGreatDoor.Pa
