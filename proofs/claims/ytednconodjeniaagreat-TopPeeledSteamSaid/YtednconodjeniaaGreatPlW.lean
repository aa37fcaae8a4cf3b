/- Peel: the whole hours of a core; a truth's core lies between those of the span. -/
import Derived.Test.YtednconodjeniaaGreatPlT
import Derived.Test.YtednconodjeniaaGreatDagA
import Derived.Test.YtednconodjeniaaGreatPlU
namespace Go.Proofs.YtednconodjeniaaGreat.P
open Go.RowKit Go.Shelf
def OneR(B:Nat)(x y:Int)(v:Value)(W:World):Prop:=∃g,v=.slice (some ⟨g,0,none⟩) 1 1/\B<=g/\g<W.heap.size/\W.cell? ⟨g,0,none⟩=some (.int .i64 x)/\W.cell? ⟨g,1,none⟩=some (.int .i64 y)
theorem OneR.stab{B:Nat}(x y:Int):∀v W W',Gr W W'->OneR B x y v W->OneR B x y v W':=λ_ _ _ hG⟨g,h1,h0,h2,h3,h4⟩=>
 ⟨g,h1,h0,Nat.lt_of_lt_of_le h2 hG.size,(hG.cell (p:=⟨g,0,none⟩) h2).trans h3,(hG.cell (p:=⟨g,1,none⟩) h2).trans h4⟩
theorem OneR.grown{B:Nat}{x y:Int}{v:Value}{W W':World}{row:Option Nat}(h:OneR B x y v W)(hg:W.grownBy W' row)(hr:∀r,row=some r->r<B):OneR B x y v W':=by
 obtain⟨g,h1,h0,h2,h3,h4⟩:=h
 have hne:some g≠row:=λe=>by have:=hr g e.symm;omega
 exact⟨g,h1,h0,Nat.lt_of_lt_of_le h2 hg.size,(World.cell?_of_block (hg.block g h2 hne)).trans h3,(World.cell?_of_block (hg.block g h2 hne)).trans h4⟩
def RowR(B:Nat)(xs:List Rg)(v:Value)(W:World):Prop:=W.ownsRow B 36 2 v xs.length (xs.flatMap encR)
theorem RowR.stab{B:Nat}(xs:List Rg):∀v W W',Gr W W'->RowR B xs v W->RowR B xs v W':=λ_ _ _ hG h=>own_later h hG
theorem run_app_rgB{W:World}{base N:Nat}(ty:TypeId){v:Value}{xs xy:List Rg}{x:Rg}(hxy:xs++[x]=xy)(hown:W.ownsRow base 36 2 v xs.length (xs.flatMap encR))(hn:∀j u,(encR x)[j]? =some u->W.cell? ((⟨N,0,none⟩:Addr).add j)=some u) (h2:xs.length<=1000) (hb:base<=W.heap.size):
 ∃v' W',(Builtin.append_ #[31,31] ty #[v,.slice (some ⟨N,0,none⟩) 1 1]).run Tryz.prog W=.ok v' W'/\(W.grownBy W' v.ownBlock/\RowR base xy v' W'):=by
 subst hxy
 obtain⟨i0,hi0,hz0,hz1,hz2⟩:=info_parts info_rg
 obtain⟨v',W',h1',h2',h3',_⟩:=run_append_own (P:=Tryz.prog) W base 31 ty 36 i0 (.agg #[.int .i64 0,.int .i64 0]) 2 16 und_rgs hi0 hz0 hz1 hz2 rfl (by decide) v xs.length _ hown ⟨N,0,none⟩ 1 1 (encR x) rfl hn (by simp[encR,Value.oneCell']) (by simp only[maxLen];omega) (by omega) hb
 refine⟨_,W',h1',h3',?_⟩
 unfold RowR
 rw[List.flatMap_append,List.length_append]
 simpa using h2'
theorem one_news{W:World}{N:Nat}{x:Rg}(h0:W.cell? ⟨N,0,none⟩=some (.int .i64 x.lo))(h1:W.cell? ⟨N,1,none⟩=some (.int .i64 x.hi)):∀j u,(encR x)[j]? =some u->W.cell? ((⟨N,0,none⟩:Addr).add j)=some u:=by
 intro j u hu
 have hadd:(⟨N,0,none⟩:Addr).add j=⟨N,j,none⟩:=by unfold Addr.add;split<;>simp_all
 rw[hadd]
 match j with
 |0=>rw[h0];simpa[encR]using hu
 |1=>rw[h1];simpa[encR]using hu
 |j+2=>simp[encR]at hu
def RowI(B:Nat)(xs:List Int)(v:Value)(W:World):Prop:=W.ownsRow B 2 1 v xs.length (xs.map (Value.int .i64))
theorem RowI.stab{B:Nat}{xs:List Int}:∀v W W',Gr W W'->RowI B xs v W->RowI B xs v W':=λ_ _ _ hG h=>own_later h hG
def Fit(xs:List Int)(cur:Array Value):Prop:=∀(i:Nat)(x:Int),xs[i]? =some x->cur[i]? =some (.int .i64 x)
theorem RowI.parts{B:Nat}{xs:List Int}{v:Value}{W:World}(h:RowI B xs v W)(hl:0<xs.length):∃g ca cur,v=.slice (some ⟨g,0,none⟩) xs.length ca/\B<=g/\Blk W g 2 cur/\xs.length<=ca/\ca<=9223372036854775807/\Fit xs cur:=by
 rcases h.2 with⟨_,h0⟩|⟨g,cap,cur,rfl,hb,hg,hc,hm,hs,ht⟩
 ·omega
 ·refine⟨g,cap,cur,rfl,hb,hg,hc,by simpa only[maxLen]using hm,λi x hi=>?_⟩
  have hin:=(List.getElem?_eq_some_iff.1 hi).1
  have h1:(xs.map (Value.int .i64))[i]? =some (.int .i64 x):=by rw[List.getElem?_map,hi];rfl
  rw[<-ht,List.getElem?_take_of_lt (by omega)]at h1
  simpa using h1
theorem sl_cur{W:World}{g ca n:Nat}{t:TypeId}{xs:List Int}{cur:Array Value}(hb:Blk W g t cur)(hf:Fit xs cur)(hl:xs.length=n)(hc:n<=ca)(hm:ca<=9223372036854775807):Sl 1 encI W W.heap.size (some ⟨g,0,none⟩) n ca xs:=
 ⟨hl,hc,hm,λ_=>⟨g,0,rfl,hb.lt,λi x hx j u hu=>by
   have hj:=(List.getElem?_eq_some_iff.1 hu).1
   simp[encI]at hj
   subst hj
   rw[show 0+i*1+0=i by omega,hb.cell,hf i x hx]
   simpa[encI]using hu⟩⟩
def BuiltL(B:Nat)(xs:List Int)(v:Value)(W:World):Prop:=∃r,v=.agg #[r,.slice none 0 0]/\RowI B xs r W
theorem BuiltL.stab{B:Nat}{xs:List Int}:∀v W W',Gr W W'->BuiltL B xs v W->BuiltL B xs v W':=λ_ _ _ hG⟨r,h1,h2⟩=>⟨r,h1,own_later h2 hG⟩
def NewL(B:Nat)(v:Value)(W:World):Prop:=∃b,v=.pointer (some ⟨b,0,none⟩)/\B<=b/\Blk W b 65 #[.slice none 0 0,.slice none 0 0]
theorem NewL.stab{B:Nat}:∀v W W',Gr W W'->NewL B v W->NewL B v W':=λ_ _ _ hG⟨b,h1,h2,h3⟩=>⟨b,h1,h2,h3.later hG⟩
def encU(n:Nat):List Value:=[.int .u16 (n:Nat)]
def nAt(bs:List Nat)(i:Nat):Int:=if bs.length=0 then 0 else((bs.getD (i % bs.length) 0:Nat):Int)
def trueR(ls hs:List Rg)(bs:List Nat)(i:Nat):Rg:=⟨(eAt ls i).lo+(nAt bs i).tmod ((eAt ls i).hi-(eAt ls i).lo+1),(eAt hs i).lo+((nAt bs i).tdiv 3).tmod ((eAt hs i).hi-(eAt hs i).lo+1)⟩
def trueL(n:Nat)(ls hs:List Rg)(bs:List Nat):List Rg:=(List.range n).map (trueR ls hs bs)
theorem trueL_succ(i:Nat)(ls hs:List Rg)(bs:List Nat):trueL i ls hs bs++[trueR ls hs bs i]=trueL (i+1) ls hs bs:=by simp[trueL,List.range_succ]
theorem trueL_len(i:Nat)(ls hs:List Rg)(bs:List Nat):(trueL i ls hs bs).length=i:=by simp[trueL]
theorem nAt_range{bs:List Nat}(hb:∀x∈bs,x<65536)(i:Nat):0<=nAt bs i/\nAt bs i<65536:=by
 unfold nAt
 split
 ·omega
 ·have hl:i % bs.length<bs.length:=Nat.mod_lt _ (by omega)
  rw[List.getD_eq_getElem?_getD,List.getElem?_eq_getElem hl]
  have:=hb _ (List.getElem_mem hl)
  simp only[Option.getD_some]
  omega
theorem tmod_range{a m:Int}(ha:0<=a)(hm:0<m):0<=a.tmod m/\a.tmod m<m:=by
 rw[Int.tmod_eq_emod_of_nonneg ha]
 exact⟨Int.emod_nonneg _ (by omega),Int.emod_lt_of_pos _ hm⟩
theorem true_in{ls hs:List Rg}{bs:List Nat}(hb:∀x∈bs,x<65536){i:Nat}(h1:(eAt ls i).lo<=(eAt ls i).hi)(h2:(eAt hs i).lo<=(eAt hs i).hi):
 ((eAt ls i).lo<=(trueR ls hs bs i).lo/\(trueR ls hs bs i).lo<=(eAt ls i).hi)/\((eAt hs i).lo<=(trueR ls hs bs i).hi/\(trueR ls hs bs i).hi<=(eAt hs i).hi):=by
 have hn:=nAt_range hb i
 have h3:0<=(nAt bs i).tdiv 3:=by rw[Int.tdiv_eq_ediv_of_nonneg hn.1];omega
 have ha:=tmod_range hn.1 (show 0<(eAt ls i).hi-(eAt ls i).lo+1 by omega)
 have hc:=tmod_range h3 (show 0<(eAt hs i).hi-(eAt hs i).lo+1 by omega)
 unfold trueR
 dsimp only
 omega
theorem true_ok{n:Nat}{xs:List Int}{ls hs:List Rg}{bs:List Nat}(h:RoughOk n xs ls hs)(hb:∀x∈bs,x<65536):LogOk n xs (trueL n ls hs bs):=
 logOk_map h.lo _ λi hi=>by
  have h1:=h.at hi
  have h2:=true_in hb h1.1.2.1 h1.2.1.2.1
  omega
theorem longs_any(A:Option Addr)(n c:Nat)(w:World):Calls Tryz.prog 47 #[.slice A n c] w λe w'=>e=.returned (.slice A n c)/\Below w.heap.size w w':=by
 go_enter Tryz.func47,Tryz.ntmps47
 go_wp2
 go_ret
 exact⟨rfl,brefl _⟩
theorem to_any(a b:Int)(w:World):Calls Tryz.prog 48 #[.int .i64 a,.int .i64 b] w λe w'=>e=.returned (.agg #[.int .i64 a,.int .i64 b])/\Below w.heap.size w w':=by
 go_enter Tryz.func48,Tryz.ntmps48
 go_wp2
 exact bodyPost_ret (v:=.agg #[.int .i64 a,.int .i64 b]) (by simp[results,Tryz.results48,go_sem]) rfl ⟨rfl,balloc (brefl w) _⟩
structure TR(w W:World)(A L H:Option Addr)(n c cl ch P g ca:Nat)(cur:Array Value)(v:Value)(es:List Rg):Prop where
 bel:Below w.heap.size w W
 b0:Blk W w.heap.size 56 #[.slice A n c,.slice L n cl,.slice H n ch]
 b1:Blk W (w.heap.size+1) 65 #[.slice none 0 0,.slice none 0 0]
 bp:Blk W P 65 #[.slice (some ⟨g,0,none⟩) n ca,v]
 bg:Blk W g 2 cur
 own:W.ownsRow w.heap.size 36 2 v es.length (es.flatMap encR)
 hP:w.heap.size+1<P
section
variable{w W W':World}{A L H:Option Addr}{n c cl ch P g ca:Nat}{cur:Array Value}{v:Value}{es:List Rg}
theorem TR.later(h:TR w W A L H n c cl ch P g ca cur v es)(hb:Below W.heap.size W W'):TR w W' A L H n c cl ch P g ca cur v es:=
 ⟨Below.later h.bel hb,h.b0.later hb,h.b1.later hb,h.bp.later hb,h.bg.later hb,own_later h.own hb,h.hP⟩
theorem TR.grown(h:TR w W A L H n c cl ch P g ca cur v es){v':Value}{ex:List Rg}(hg:W.grownBy W' v.ownBlock)(ho:W'.ownsRow w.heap.size 36 2 v' ex.length (ex.flatMap encR)):TR w (W'.setCell ⟨P,1,none⟩ v') A L H n c cl ch P g ca cur v' ex:=by
 have hP:=h.hP
 have hbp:=h.bp.grown hg (h.bp.notRow h.own (by decide))
 have hbg:=h.bg.grown hg (h.bg.notRow h.own (by decide))
 refine⟨bset (below_row h.bel hg (own_base h.own) h.bel.size) (by show w.heap.size<=P;omega) _,(h.b0.grown hg (h.b0.notRow h.own (by decide))).other (by show P≠_;omega) _,(h.b1.grown hg (h.b1.notRow h.own (by decide))).other (by show P≠_;omega) _,hbp.set 1 v',hbg.other (hbp.apart hbg (by decide)) _,own_other ho _ (hbp.notRow ho (by decide)) _,hP⟩
theorem TR.cells(h:TR w W A L H n c cl ch P g ca cur v es):W.cell? ⟨w.heap.size,0,none⟩=some (.slice A n c)/\W.cell? ⟨w.heap.size,1,none⟩=some (.slice L n cl)/\W.cell? ⟨w.heap.size,2,none⟩=some (.slice H n ch)/\w.heap.size<W.heap.size:=⟨h.b0.cell 0,h.b0.cell 1,h.b0.cell 2,h.b0.lt⟩
end
end Go.Proofs.YtednconodjeniaaGreat.P
namespace Go.Proofs.YtednconodjeniaaGreat.P
open Go.RowKit Go.Shelf
set_option maxRecDepth 100000 in
set_option maxHeartbeats 8000000 in
theorem true_any(A L H:Option Addr)(n c cl ch:Nat)(xs:List Int)(ls hs:List Rg)(BA:Option Addr)(bn bc:Nat)(bs:List Nat)(w:World)(hr:Ro w A L H n c cl ch xs ls hs)(hok:RoughOk n xs ls hs)(hbs:Sl 1 encU w w.heap.size BA bn bc bs)(hbd:∀x∈bs,x<65536):
 Calls Tryz.prog 19 #[.agg #[.slice A n c,.slice L n cl,.slice H n ch],.slice BA bn bc] w λe w'=>∃A' c' E' ce',e=.returned (.agg #[.slice A' n c',.slice E' n ce'])/\Below w.heap.size w w'/\Sl 1 encI w' w'.heap.size A' n c' xs/\Sl 2 encR w' w'.heap.size E' n ce' (trueL n ls hs bs):=by
 have hn2:=hok.lo.n2
 have hn8:=hok.lo.n8
 have hxl:=hok.lo.xl
 have hbel:Below w.heap.size w ((w.alloc (.cells #[.slice A n c,.slice L n cl,.slice H n ch] 56)).alloc (.cells #[.slice none 0 0,.slice none 0 0] 65)):=balloc (balloc (brefl w) _) _
 have Hb0:=Lib.hid ((Blk.new w 56 #[.slice A n c,.slice L n cl,.slice H n ch]).alloc (.cells #[.slice none 0 0,.slice none 0 0] 65))
 have hb1:=Blk.new (w.alloc (.cells #[.slice A n c,.slice L n cl,.slice H n ch] 56)) 65 #[.slice none 0 0,.slice none 0 0]
 rw[World.size_alloc]at hb1
 have Hb1:=Lib.hid hb1
 have Hbel:=Lib.hid hbel
 have Hr:=Lib.hid hr
 have Hok:=Lib.hid hok
 have Hbs:=Lib.hid hbs
 have Hbd:=Lib.hid hbd
 have Hxl:=Lib.hid hxl
 clear hbel hb1 hr hok hbs hbd hxl
 go_enter Tryz.func19,Tryz.ntmps19
 go_wp2_with fail
 refine dag 6 (by kernel_rfl) (by kernel_rfl) (.is (.slice none 0 0)::.is ?_::.is ?_::.like (RowI w.heap.size xs)::.like (BuiltL w.heap.size xs)::.like (NewL (w.heap.size+1+1))::[]) rfl ?st1 ?ob1
 case st1=>repeat (first|exact stab_nil|refine stab_is ?_|refine stab_like RowI.stab ?_|refine stab_like BuiltL.stab ?_|refine stab_like NewL.stab ?_)
 case ob1=>
 intro env V hG
 have hV0:=Hb0.out.later hG
 have c0:V.cell? ⟨w.heap.size,0,none⟩=some (.slice A n c):=hV0.cell 0
 have c1:=hV0.lt
 have HG:=Lib.hid hG
 have HB:=Lib.hid (Below.later Hbel.out hG)
 have hsz:w.heap.size+1+1<=V.heap.size:=by have:=hG.size;simp at this;omega
 clear hV0 hG
 refine obls_is ?_ ?_
 ·unfold doesAt
  go_simp
  refine(longs_any _ _ _ V).mono ?_
  rintro e w1⟨rfl,hb1⟩
  (exact⟨rfl,hb1⟩)
 intro K hK
 go_simp
 refine hK _ ?_
 clear hK K
 iterate 2 (refine obls_is ?_ ?_;unfold doesAt;go_simp;(try go_bits);(first|(refine⟨brefl _,?_⟩;rfl)|rfl);intro K hK;go_simp;refine hK _ ?_;clear hK K)
 refine obls_like (λ_=>?_) ?_
 ·refine app_of_run rfl (.tmp 10) (.tmp 12) 43 rfl rfl rfl ?_
  obtain⟨i0,hi0,hz0,hz1,hz2⟩:=info_parts info_long
  obtain⟨b,o,hA,_,_⟩:=Hr.out.at_.at_ (by omega)
  subst hA
  have hcap:=Hr.out.at_.cap
  have hbig:=Hr.out.at_.big
  obtain⟨v',W',e1,e2,e3,_⟩:=run_append_own (P:=Tryz.prog) V w.heap.size 43 _ 2 i0 (.int .i64 0) 1 8 und_longs hi0 hz0 hz1 hz2 rfl (by decide) (.slice none 0 0) 0 [] (World.ownsRow_nil V _ 2 1) ⟨b,o,none⟩ n c (xs.map (Value.int .i64)) (by simpa using Hxl.out) (sl_news (Hr.out.at_.later HB.out) (by omega)) (by simp[Value.oneCell']) (by simp only[maxLen];omega) (by omega) HB.out.size
  refine⟨v',W',e1,⟨e3.os,e3.tape,e3.output,e3.size,λk hk=>e3.block k hk (by simp[Value.ownBlock])⟩,?_⟩
  unfold RowI
  rw[Hxl.out]
  simpa using e2
 intro K hK
 go_simp
 refine hK _ ?_
 clear hK K
 refine obls_like (λhl=>?_) ?_
 ·have h3:RowI w.heap.size xs (env 3) V:=hl ⟨3,.data⟩ (by simp) rfl
  obtain⟨g,ca,cur,hE3,-,-,-,-,-⟩:=h3.parts (by have:=Hxl.out;omega)
  have H3:=Lib.hid h3
  clear h3
  unfold doesAt
  simp only[hE3]
  go_simp
  exact⟨brefl V,_,rfl,by rw[<-hE3];exact H3.out⟩
 intro K hK
 go_simp
 refine hK _ ?_
 clear hK K
 refine obls_like (λhl=>?_) ?_
 ·unfold doesAt
  go_simp
  exact⟨balloc (brefl V) _,V.heap.size,rfl,hsz,Blk.new V 65 #[.slice none 0 0,.slice none 0 0]⟩
 intro K hK
 go_simp
 refine hK _ ?_
 clear hK K
 refine obls_last (λhok=>?_)
 have h4:BuiltL w.heap.size xs (env 4) V:=hok 4 _ rfl
 have h5:NewL (w.heap.size+1+1) (env 5) V:=hok 5 _ rfl
 obtain⟨r,hr4,h4⟩:=h4
 obtain⟨P,hp5,hPB,hP⟩:=h5
 obtain⟨g,ca,cur,rfl,hgB,hg,hcc,hcm,hfit⟩:=h4.parts (by have:=Hxl.out;omega)
 rw[Hxl.out]at hr4 hcc
 rw[hr4,hp5]
 have hP0:=hP.lt
 have hP1:=hP.frozen 0
 have hP2:=hP.frozen 1
 have hP3:V.cell? ⟨P,0,none⟩=some (.slice none 0 0):=hP.cell 0
 have hP4:V.cell? ⟨P,1,none⟩=some (.slice none 0 0):=hP.cell 1
 have HT:=Lib.hid (show TR w ((V.setCell ⟨P,0,none⟩ (.slice (some ⟨g,0,none⟩) n ca)).setCell ⟨P,1,none⟩ (.slice none 0 0)) A L H n c cl ch P g ca cur (.slice none 0 0) (trueL 0 ls hs bs)from
  ⟨bset (bset HB.out (p:=⟨P,0,none⟩) (by show w.heap.size<=P;omega) _) (p:=⟨P,1,none⟩) (by show w.heap.size<=P;omega) _,
    ((Hb0.out.later HG.out).other (p:=⟨P,0,none⟩) (by show P≠_;omega) _).other (p:=⟨P,1,none⟩) (by show P≠_;omega) _,
    ((Hb1.out.later HG.out).other (p:=⟨P,0,none⟩) (by show P≠_;omega) _).other (p:=⟨P,1,none⟩) (by show P≠_;omega) _,
    (hP.set 0 (.slice (some ⟨g,0,none⟩) n ca)).set 1 (.slice none 0 0),
    (hg.other (p:=⟨P,0,none⟩) (hP.apart hg (by decide)) _).other (p:=⟨P,1,none⟩) (hP.apart hg (by decide)) _,
    World.ownsRow_nil _ _ _ _,by omega⟩)
 have Hfit:=Lib.hid (And.intro hcc (And.intro hcm hfit))
 unfold doesAt
 go_simp
 obtain⟨W2,hW2⟩:∃W2,(V.setCell ⟨P,0,none⟩ (.slice (some ⟨g,0,none⟩) n ca)).setCell ⟨P,1,none⟩ (.slice none 0 0)=W2:=⟨_,rfl⟩
 rw[hW2]at HT ⊢
 clear hP0 hP1 hP2 hP3 hP4 hok hP hg hPB hgB hr4 hp5 h4 hfit hcc hcm c0 c1 HG HB hsz hW2 Hb0 Hb1 Hbel
 clear V
 go_wp2_with fail
 refine loop_n (λq a W=>a.defers=[]/\∃(i:Nat)(v:Value),i+q=n/\TR w W A L H n c cl ch P g ca cur v (trueL i ls hs bs)/\Fits (none::some (.slice BA bn bc)::some (.pointer (some ⟨w.heap.size,0,none⟩))::none::some (.pointer (some ⟨w.heap.size+1,0,none⟩))::some (.pointer (some ⟨P,0,none⟩))::some (.int .i64 (i:Nat))::none::none::none::none::none::none::none::none::none::none::none::none::none::none::none::none::none::none::none::none::none::none::none::none::none::none::none::none::none::none::none::none::none::none::none::none::none::none::none::none::none::none::none::none::none::none::none::none::none::none::none::none::none::none::none::none::none::none::none::none::none::none::none::none::none::none::[]) a.tmps.toList) n ?_ ?_
 ·refine⟨rfl,0,_,by omega,HT.out,?_⟩
  repeat (first|exact fits_nil|refine fits_none ?_|refine fits_some ?_)
 clear HT
 intro q a W hI K1 hK
 obtain⟨hds,i,v,hiq,hT,hfit⟩:=hI
 obtain⟨f',hf'⟩:=fits_act hfit
 rw[hds]at hf'
 subst hf'
 clear hfit hds
 simp only[fillP,Nat.reduceAdd]
 have HT:=Lib.hid hT
 obtain⟨c0,c1,c2,c3⟩:=hT.cells
 by_cases hlt:i<n
 ·have hbel:=hT.bel
  have i1:(i:Int)<(n:Int):=by omega
  have i2:(0:Int)<=(i:Int):=by omega
  have i3:IntKind.i64.wrap ((i:Int)+1)=(i:Int)+1:=by rw[IntKind.wrap_i64];omega
  clear hT
  go_upto_region 6 with fail
  rename_i K8 hK8 K7 hK7
  have key:∀a:Act,a.defers=[]->Fits (none::some (.slice BA bn bc)::some (.pointer (some ⟨w.heap.size,0,none⟩))::none::some (.pointer (some ⟨w.heap.size+1,0,none⟩))::some (.pointer (some ⟨P,0,none⟩))::some (.int .i64 (i:Nat))::some (.int .i64 (nAt bs i))::none::none::none::none::none::none::none::none::none::none::none::none::none::none::none::none::none::none::none::none::none::none::none::none::none::none::none::none::none::none::none::none::none::none::none::none::none::none::none::none::none::none::none::none::none::none::none::none::none::none::none::none::none::none::none::none::none::none::none::none::none::none::none::none::none::[]) a.tmps.toList->K8 a W:=by
   clear hK7 hbel
   clear K7
   intro a hds hfit
   obtain⟨f',hf'⟩:=fits_act hfit
   rw[hds]at hf'
   subst hf'
   clear hfit hds
   simp only[fillP,Nat.reduceAdd]
   have hT:=HT.out
   obtain⟨lb,lo,y,rfl,hlb,hy,l0,l1⟩:=(Hr.out.later hT.bel).lo.ltR hlt
   obtain⟨ub,uo,z,rfl,hub,hz,u0,u1⟩:=(Hr.out.later hT.bel).hi.ltR hlt
   have hey:eAt ls i=y:=by simp[eAt,hy]
   have hez:eAt hs i=z:=by simp[eAt,hz]
   have hin:=Hok.out.at hlt
   have htr:=true_in Hbd.out hin.1.2.1 hin.2.1.2.1
   rw[hey,hez]at hin htr
   have hnr:=nAt_range Hbd.out i
   have htv:trueR ls hs bs i=⟨y.lo+(nAt bs i).tmod (y.hi-y.lo+1),z.lo+((nAt bs i).tdiv 3).tmod (z.hi-z.lo+1)⟩:=by unfold trueR;rw[hey,hez]
   have hsucc:=trueL_succ i ls hs bs
   obtain⟨nn,hnn⟩:∃k,nAt bs i=k:=⟨_,rfl⟩
   rw[hnn]at htv hnr ⊢
   obtain⟨d1,hd1⟩:∃k,y.hi-y.lo=k:=⟨_,rfl⟩
   obtain⟨m1,hm1⟩:∃k,d1+1=k:=⟨_,rfl⟩
   obtain⟨r1,hr1⟩:∃k,nn.tmod m1=k:=⟨_,rfl⟩
   obtain⟨t1,ht1⟩:∃k,y.lo+r1=k:=⟨_,rfl⟩
   obtain⟨q3,hq3⟩:∃k,nn.tdiv 3=k:=⟨_,rfl⟩
   obtain⟨d2,hd2⟩:∃k,z.hi-z.lo=k:=⟨_,rfl⟩
   obtain⟨m2,hm2⟩:∃k,d2+1=k:=⟨_,rfl⟩
   obtain⟨r2,hr2⟩:∃k,q3.tmod m2=k:=⟨_,rfl⟩
   obtain⟨t2,ht2⟩:∃k,z.lo+r2=k:=⟨_,rfl⟩
   rw[hd1,hm1,hr1,ht1,hq3,hd2,hm2,hr2,ht2]at htv
   rw[htv]at htr hsucc
   dsimp only at htr
   have hq:0<=q3/\q3<=65535:=by rw[<-hq3,Int.tdiv_eq_ediv_of_nonneg hnr.1];omega
   have k1:IntKind.i64.wrap (y.hi-y.lo)=d1:=by rw[IntKind.wrap_i64];omega
   have k2:IntKind.i64.wrap (d1+1)=m1:=by rw[IntKind.wrap_i64];omega
   have k3:¬(m1=0):=by omega
   have k4:IntKind.i64.wrap r1=r1:=by rw[IntKind.wrap_i64];omega
   have k5:IntKind.i64.wrap (y.lo+r1)=t1:=by rw[IntKind.wrap_i64];omega
   have k6:IntKind.i64.wrap q3=q3:=by rw[IntKind.wrap_i64];omega
   have k7:IntKind.i64.wrap (z.hi-z.lo)=d2:=by rw[IntKind.wrap_i64];omega
   have k8:IntKind.i64.wrap (d2+1)=m2:=by rw[IntKind.wrap_i64];omega
   have k9:¬(m2=0):=by omega
   have k10:IntKind.i64.wrap r2=r2:=by rw[IntKind.wrap_i64];omega
   have k11:IntKind.i64.wrap (z.lo+r2)=t2:=by rw[IntKind.wrap_i64];omega
   have HK:=Lib.hid (And.intro k1 (And.intro k2 (And.intro k3 (And.intro k4 (And.intro k5 (And.intro k6 (And.intro k7 (And.intro k8 (And.intro k9 (And.intro k10 (And.intro k11 (And.intro hr1 (And.intro hq3 hr2)))))))))))))
   have Hsucc:=Lib.hid hsucc
   clear hT hy hz hey hez hin htr hnr htv hsucc hnn hd1 hm1 hr1 ht1 hq3 hd2 hm2 hr2 ht2 hq k1 k2 k3 k4 k5 k6 k7 k8 k9 k10 k11
   go_upto_region 8 with fail
   go_cut [8,9]from 33 (λs8 s9 wx=>∃p q:Nat,s8=.pointer (some ⟨p,0,none⟩)/\s9=.pointer (some ⟨q,0,none⟩)/\RX W wx p q y z/\W.heap.size<=p/\W.heap.size<=q)
   case first=>
    clear hK HT
    go_region
    all_goals
     go_wp2_with fail
     go_meet
     case rel=>first|exact⟨_,_,rfl,rfl,rx_a W _ _,Nat.le_refl _,Nat.le_succ _⟩|exact⟨_,_,rfl,rfl,rx_b W _ _,Nat.le_succ _,Nat.le_refl _⟩
   case rest=>
   obtain⟨p,q2,rfl,rfl,hX,hpl,hql⟩:=hcut
   have hU:=HT.out.later hX.bel
   have hrow:∀r,v.ownBlock=some r->r<W.heap.size:=own_lt HT.out.own
   have hnp:v.ownBlock≠some p:=λe=>by have:=hrow p e;omega
   have hnq:v.ownBlock≠some q2:=λe=>by have:=hrow q2 e;omega
   have hnP:=hU.bp.notRow hU.own (by decide)
   have Hrow:=Lib.hid (show∀r,v.ownBlock=some r->r<wc.heap.size fromλr e=>Nat.lt_of_lt_of_le (hrow r e) hX.bel.size)
   have hel:=trueL_len i ls hs bs
   obtain⟨es,hes⟩:∃es,trueL i ls hs bs=es:=⟨_,rfl⟩
   obtain⟨ex,hex⟩:∃ex,trueL (i+1) ls hs bs=ex:=⟨_,rfl⟩
   rw[hes]at hU hel Hsucc
   rw[hex]at Hsucc
   have Hex:=Lib.hid hex
   have HU:=Lib.hid hU
   have hs0:=hU.bel.size
   have b0:wc.cell? ⟨P,1,none⟩=some v:=hU.bp.cell 1
   have b1:=hU.bp.lt
   have HX:=Lib.hid hX
   obtain⟨k1,k2,k3,k4,k5,k6,k7,k8,k9,k10,k11,hr1,hq3,hr2⟩:=HK.out
   clear hU hX hes hex hrow HT c0 c1 c2 c3 hlb hub l0 l1 u0 u1
   go_wp2_with fail
   refine dagRow 29 27 v.ownBlock (by kernel_rfl) (by kernel_rfl) (.is ?_::.is ?_::.is ?_::.is ?_::.is ?_::.is ?_::.is ?_::.is ?_::.is ?_::.is ?_::.is ?_::.is ?_::.is ?_::.is ?_::.is ?_::.is ?_::.is ?_::.is ?_::.is ?_::.is ?_::.is ?_::.is ?_::.is ?_::.is ?_::.is ?_::.is (.agg #[.int .i64 t1,.int .i64 t2])::.like (OneR wc.heap.size t1 t2)::.like (RowR w.heap.size ex)::.is ?_::[]) rfl ?st1 ?gd1 ?stb1 ?ob1
   case st1=>repeat (first|exact stab_nil|refine stab_is ?_|refine stab_like (OneR.stab _ _) ?_|refine stab_like (RowR.stab _) ?_)
   case gd1=>intro o ho;cases ho;rfl
   case stb1=>repeat (first|exact stabT_nil|refine stabT_is ?_|refine stabT_like (λ_ _ _ h1 h2=>h2.grown h1.2 Hrow.out) ?_)
   case ob1=>
   intro env V hG
   have hP2:=HU.out.bp.grown hG hnP
   have hp2:=HX.out.bp.grown hG hnp
   have hq2:=HX.out.bq.grown hG hnq
   have d1:V.cell? ⟨P,1,none⟩=some v:=hP2.cell 1
   have d2:=hP2.lt
   have e0:V.cell? ⟨p,0,none⟩=some (.int .i64 y.lo):=hp2.cell 0
   have e1:V.cell? ⟨p,1,none⟩=some (.int .i64 y.hi):=hp2.cell 1
   have e2:=hp2.lt
   have f0:V.cell? ⟨q2,0,none⟩=some (.int .i64 z.lo):=hq2.cell 0
   have f1:V.cell? ⟨q2,1,none⟩=some (.int .i64 z.hi):=hq2.cell 1
   have f2:=hq2.lt
   have f3:=hP2.frozen 1
   have HG:=Lib.hid hG
   clear hG hP2 hp2 hq2
   iterate 25 (refine oblsA_is (show _≠(27:Nat)by decide) ?_ ?_;unfold doesAt;go_simp;(try go_bits);(first|(refine⟨brefl _,?_⟩;rfl)|rfl);intro K hK;go_simp;refine hK _ ?_;clear hK K)
   refine oblsA_is (show _≠(27:Nat)by decide) ?_ ?_
   ·unfold doesAt
    go_simp
    refine(to_any t1 t2 V).mono ?_
    rintro e w1⟨rfl,hb1⟩
    (exact⟨rfl,hb1⟩)
   intro K hK
   go_simp
   refine hK _ ?_
   clear hK K
   refine oblsA_like (show _≠(27:Nat)by decide) (λ_=>?_) ?_
   ·unfold doesAt
    go_simp
    have hbn:=Blk.new V 36 #[.int .i64 t1,.int .i64 t2]
    exact⟨balloc (brefl V) _,V.heap.size,rfl,HG.out.size,hbn.lt,hbn.cell 0,hbn.cell 1⟩
   intro K hK
   go_simp
   refine hK _ ?_
   clear hK K
   refine oblsA_app rfl (λhl hp=>?_) ?_
   ·obtain⟨g1,hE,hg1,hg2,hg3,hg4⟩:OneR wc.heap.size t1 t2 (env 26) V:=hl ⟨26,.data⟩ (by simp) rfl (.inl rfl)
    refine app_of_run rfl (.tmp 44) (.tmp 69) 31 rfl rfl hE ?_
    exact run_app_rgB _ Hsucc.out (own_later HU.out.own hp) (one_news (x:=⟨t1,t2⟩) hg3 hg4) (by omega) (by have:=hp.size;omega)
   intro K hK
   go_simp
   refine hK _ ?_
   clear hK K
   (refine oblsA_is (show _≠(27:Nat)by decide) ?_ ?_;unfold doesAt;go_simp;(try go_bits);(first|(refine⟨brefl _,?_⟩;rfl)|rfl);intro K hK;go_simp;refine hK _ ?_;clear hK K)
   refine oblsA_last (λhok=>?_)
   have hrw:RowR w.heap.size ex (env 27) V:=hok 27 _ rfl (.inl rfl)
   obtain⟨v',hv'⟩:∃v',env 27=v':=⟨_,rfl⟩
   rw[hv']at hrw ⊢
   have hl1:ex.length=es.length+1:=by rw[<-Hsucc.out];simp
   have HT4:=Lib.hid (HU.out.grown HG.out hrw)
   unfold RowR at hrw
   rw[hl1]at hrw
   obtain⟨gg,cap,rfl⟩:=own_succ hrw
   clear hrw hv' hok HG HX HU hl1 e0 e1 e2 f0 f1 f2 HK Hrow hnp hnq hnP k1 k2 k3 k4 k5 k6 k7 k8 k9 k10 k11 hr1 hq3 hr2
   unfold doesAt
   go_simp
   go_wp2
   rw[<-Hex.out,hel]at HT4
   refine hK _ _ (q-1) (by omega) ⟨rfl,i+1,_,by omega,HT4.out,?_⟩
   repeat (first|exact fits_nil|refine fits_none ?_|refine fits_some ?_)
  clear hK hK8 c0 c1 c2 c3
  have hbl:=Hbs.out.len
  by_cases h0:0<bn
  case neg=>
   have e:nAt bs i=0:=by unfold nAt;rw[if_pos (by omega)]
   have He:=Lib.hid e
   have j1:¬((0:Int)<(bn:Int)):=by omega
   clear e hbel hbl h0
   go_wp2_with fail
   refine key _ rfl ?_
   rw[He.out]
   repeat (first|exact fits_nil|refine fits_none ?_|refine fits_some ?_)
  case pos=>
   obtain⟨k,hk⟩:∃k,i % bn=k:=⟨_,rfl⟩
   have hkn:k<bn:=by rw[<-hk];exact Nat.mod_lt _ (by omega)
   obtain⟨bb,bo,x,rfl,hbb,hx,hcx⟩:=(Hbs.out.later hbel).lt hkn
   have b0:W.cell? ⟨bb,bo+k,none⟩=some (.int .u16 (x:Nat)):=by simpa using hcx 0 _ rfl
   have hx2:=Hbd.out x (List.mem_of_getElem? hx)
   have e:nAt bs i=(x:Int):=by
    unfold nAt
    rw[if_neg (by omega),hbl,hk,List.getD_eq_getElem?_getD,hx]
    rfl
   have He:=Lib.hid e
   have j1:(0:Int)<(bn:Int):=by omega
   have j2:((i:Nat):Int).tmod (bn:Int)=(k:Int):=by
    rw[Int.tmod_eq_emod_of_nonneg (by omega),<-hk]
    rfl
   have j3:(0:Int)<=(k:Int):=by omega
   have j4:(k:Int)<(bn:Int):=by omega
   have j5:IntKind.i64.wrap (x:Int)=(x:Int):=by rw[IntKind.wrap_i64];omega
   have j6:IntKind.i64.wrap (k:Int)=(k:Int):=by rw[IntKind.wrap_i64];have:=Hbs.out.cap;have:=Hbs.out.big;omega
   have j7:¬((bn:Int)=0):=by omega
   clear e hbel hbl hx hx2 hcx hk h0
   go_wp2_with fail
   refine key _ rfl ?_
   rw[He.out]
   repeat (first|exact fits_nil|refine fits_none ?_|refine fits_some ?_)
 obtain rfl:i=n:=by omega
 have hT:=HT.out
 have hon:=hT.own
 rw[trueL_len]at hon
 obtain⟨m,hm⟩:∃m,i=m+1:=⟨i-1,by omega⟩
 obtain⟨gg,cap,hv⟩:∃gg cap,v=.slice (some ⟨gg,0,none⟩) i cap:=by
  rw[hm]at hon ⊢
  exact own_succ hon
 subst hv
 have p0:W.cell? ⟨P,0,none⟩=some (.slice (some ⟨g,0,none⟩) i ca):=hT.bp.cell 0
 have p1:W.cell? ⟨P,1,none⟩=some (.slice (some ⟨gg,0,none⟩) i cap):=hT.bp.cell 1
 have p2:=hT.bp.lt
 have q0:W.cell? ⟨w.heap.size+1,0,none⟩=some (.slice none 0 0):=hT.b1.cell 0
 have q1:W.cell? ⟨w.heap.size+1,1,none⟩=some (.slice none 0 0):=hT.b1.cell 1
 have q2:=hT.b1.lt
 have q3:=hT.b1.frozen 0
 have q4:=hT.b1.frozen 1
 have hnr:=hT.b1.notRow hT.own (by decide)
 have hap:=hT.b1.apart hT.bg (by decide)
 have Hon:=Lib.hid hon
 have Hm:=Lib.hid hm
 clear hK hlt hT hon hm hiq hn2 c1 c2
 go_wp2
 refine bodyPost_ret (v:=.agg #[.slice (some ⟨g,0,none⟩) i ca,.slice (some ⟨gg,0,none⟩) i cap]) (by simp[results,Tryz.results19,go_sem,q0,q1]) rfl ⟨_,_,_,_,rfl,?_,?_,?_⟩
 ·exact bset (bset HT.out.bel (p:=⟨w.heap.size+1,0,none⟩) (by show w.heap.size<=w.heap.size+1;omega) _) (p:=⟨w.heap.size+1,1,none⟩) (by show w.heap.size<=w.heap.size+1;omega) _
 ·exact sl_cur ((HT.out.bg.other hap _).other hap _) Hfit.out.2.2 Hxl.out Hfit.out.1 Hfit.out.2.1
 ·obtain⟨G',c',hE,hsl⟩:=own_slG (enc:=encR) (k:=2) (λ_=>rfl) (own_other (own_other Hon.out ⟨w.heap.size+1,0,none⟩ hnr (.slice (some ⟨g,0,none⟩) i ca)) ⟨w.heap.size+1,1,none⟩ hnr (.slice (some ⟨gg,0,none⟩) i cap)) (trueL_len i ls hs bs)
  cases hE
  exact hsl
end Go.Proofs.YtednconodjeniaaGreat.P
namespace Go.Proofs.YtednconodjeniaaGreat.P
open Go.RowKit Go.Shelf
def Within(n:Nat)(es us:List Rg):Prop:=∀i,i<n->(eAt us i).lo<=(eAt es i).lo/\(eAt es i).hi<=(eAt us i).hi
theorem num_mono{n:Nat}{xs:List Int}{es us:List Rg}(hok:LogOk n xs es)(hw:Within n es us){p:Pr}(hp:PrOk n p):numV xs es p<=numV xs us p:=by
 obtain⟨hc,h⟩:=hp
 unfold numV
 rcases h with⟨h1,h2,h3⟩|⟨h1,h2,h3⟩
 ·rw[if_pos h3,if_pos h3]
  have:=hw p.b (by omega)
  omega
 ·have hxl:=hok.xl
  have hx:∀i j,i<j->j<n->0<=xAt xs j-xAt xs i:=λi j hij hj=>by
   unfold xAt
   rw[List.getD_eq_getElem?_getD,List.getD_eq_getElem?_getD,List.getElem?_eq_getElem (show j<xs.length by omega),List.getElem?_eq_getElem (show i<xs.length by omega)]
   have:=hok.up i j _ _ hij (List.getElem?_eq_getElem (by omega)) (List.getElem?_eq_getElem (by omega))
   simp only[Option.getD_some]
   omega
  have hbc:=hx p.b p.c h2 hc
  have hab:=hx p.a p.b h1 (by omega)
  have ha:=hw p.a (by omega)
  have hb:=hw p.b (by omega)
  have hcc:=hw p.c hc
  have h0:¬p.s=0:=by omega
  rw[if_neg h0,if_neg h0]
  rcases h3 with h3|h3
  ·rw[if_pos h3,if_pos h3]
   have e1:=Int.mul_le_mul_of_nonneg_right (show(eAt es p.b).hi-(eAt es p.a).lo<=(eAt us p.b).hi-(eAt us p.a).lo by omega) hbc
   have e2:=Int.mul_le_mul_of_nonneg_right (show(eAt es p.b).hi-(eAt es p.c).lo<=(eAt us p.b).hi-(eAt us p.c).lo by omega) hab
   omega
  ·have h4:¬p.s=1:=by omega
   rw[if_neg h4,if_neg h4]
   have e1:=Int.mul_le_mul_of_nonneg_right (show(eAt es p.a).hi-(eAt es p.b).lo<=(eAt us p.a).hi-(eAt us p.b).lo by omega) hbc
   have e2:=Int.mul_le_mul_of_nonneg_right (show(eAt es p.c).hi-(eAt es p.b).lo<=(eAt us p.c).hi-(eAt us p.b).lo by omega) hab
   omega
theorem prQ_mono{n:Nat}{xs:List Int}{es us:List Rg}(hok:LogOk n xs es)(hok':LogOk n xs us)(hw:Within n es us){p:Pr}(hp:PrOk n p):leQ (prQ xs es p) (prQ xs us p):=by
 obtain⟨_,a2,a3,a4⟩:=prQ_ok hok hp
 obtain⟨_,b2,b3,_⟩:=prQ_ok hok' hp
 have hn:=num_mono hok hw hp
 unfold leQ
 refine Int.le_of_mul_le_mul_right (a:=denV xs p) ?_ a4
 have h1:=Int.mul_le_mul_of_nonneg_right hn (Int.le_of_lt (Int.mul_pos a2 b2))
 have r1:(prQ xs es p).1*(prQ xs us p).2*denV xs p=numV xs es p*((prQ xs es p).2*(prQ xs us p).2):=by
  rw[Int.mul_right_comm,a3,Int.mul_assoc]
 have r2:(prQ xs us p).1*(prQ xs es p).2*denV xs p=numV xs us p*((prQ xs es p).2*(prQ xs us p).2):=by
  rw[Int.mul_right_comm,b3,Int.mul_assoc,Int.mul_comm (prQ xs us p).2]
 omega
theorem eAt_map{n i:Nat}(F:Nat->Rg)(h:i<n):eAt ((List.range n).map F) i=F i:=by simp[eAt,h]
theorem inner_true{n:Nat}{xs:List Int}{ls hs:List Rg}{bs:List Nat}(h:RoughOk n xs ls hs)(hb:∀x∈bs,x<65536):Within n (innerL n ls hs) (trueL n ls hs bs):=λi hi=>by
 have h1:=h.at hi
 have h2:=true_in hb h1.1.2.1 h1.2.1.2.1
 unfold innerL trueL
 rw[eAt_map _ hi,eAt_map _ hi]
 dsimp only
 omega
theorem true_outer{n:Nat}{xs:List Int}{ls hs:List Rg}{bs:List Nat}(h:RoughOk n xs ls hs)(hb:∀x∈bs,x<65536):Within n (trueL n ls hs bs) (outerL n ls hs):=λi hi=>by
 have h1:=h.at hi
 have h2:=true_in hb h1.1.2.1 h1.2.1.2.1
 unfold outerL trueL
 rw[eAt_map _ hi,eAt_map _ hi]
 dsimp only
 omega
theorem span_true{n:Nat}{xs:List Int}{ls hs:List Rg}{bs:List Nat}(h:RoughOk n xs ls hs)(hb:∀x∈bs,x<65536){p q t:Pr}(hp:PrOk n p)(hpm:∀r,PrOk n r->leQ (prQ xs (innerL n ls hs) p) (prQ xs (innerL n ls hs) r))(hq:PrOk n q)(ht:PrOk n t)
 (htm:∀r,PrOk n r->leQ (prQ xs (trueL n ls hs bs) t) (prQ xs (trueL n ls hs bs) r)):leQ (prQ xs (innerL n ls hs) p) (prQ xs (trueL n ls hs bs) t)/\leQ (prQ xs (trueL n ls hs bs) t) (prQ xs (outerL n ls hs) q):=by
 have hi:=inner_ok h
 have ho:=outer_ok h
 have hr:=true_ok h hb
 exact⟨leQ_trans (prQ_ok hi hp).2.1 (prQ_ok hi ht).2.1 (prQ_ok hr ht).2.1 (hpm t ht) (prQ_mono hi hr (inner_true h hb) ht),
  leQ_trans (prQ_ok hr ht).2.1 (prQ_ok hr hq).2.1 (prQ_ok ho hq).2.1 (htm q hq) (prQ_mono hr ho (true_outer h hb) hq)⟩
def wOk(q:Int×Int):Bool:=!decide (q.1<0)&&!decide (100<q.1.tdiv q.2)
def wV(q:Int×Int):Int:=if wOk q=true then q.1.tdiv q.2 else 0
theorem floor_mono{a b:Int×Int}(ha:0<a.2)(hb:0<b.2)(h0:0<=a.1)(h:leQ a b):0<=b.1/\a.1.tdiv a.2<=b.1.tdiv b.2:=by
 unfold leQ at h
 have hb1:0<=b.1:=by
  have h1:0<=a.1*b.2:=Int.mul_nonneg h0 (Int.le_of_lt hb)
  rcases Int.lt_or_le b.1 0 with h2|h2
  ·have:=Int.mul_neg_of_neg_of_pos h2 ha
   omega
  ·exact h2
 refine⟨hb1,?_⟩
 rw[Int.tdiv_eq_ediv_of_nonneg h0,Int.tdiv_eq_ediv_of_nonneg hb1]
 refine(Int.le_ediv_iff_mul_le hb).2 ?_
 refine Int.le_of_mul_le_mul_right (a:=a.2) ?_ ha
 have h1:a.1 / a.2*a.2<=a.1:=Int.ediv_mul_le _ (by omega)
 have h2:=Int.mul_le_mul_of_nonneg_right h1 (Int.le_of_lt hb)
 rw[Int.mul_right_comm]at h2
 omega
theorem whole_mid{a c b:Int×Int}(ha:0<a.2)(hc:0<c.2)(hb:0<b.2)(h1:leQ a c)(h2:leQ c b)(o1:wOk a=true)(o2:wOk b=true):wOk c=true/\wV a<=wV c/\wV c<=wV b/\0<=wV a/\wV b<=100:=by
 have k1:=o1
 have k2:=o2
 unfold wOk at o1 o2
 simp at o1 o2
 obtain⟨g1,g2⟩:=floor_mono ha hc (by omega) h1
 obtain⟨g3,g4⟩:=floor_mono hc hb g1 h2
 have k3:wOk c=true:=by unfold wOk;simp;omega
 have e1:0<=a.1.tdiv a.2:=Int.tdiv_nonneg (by omega) (by omega)
 refine⟨k3,?_⟩
 unfold wV
 rw[if_pos k1,if_pos k2,if_pos k3]
 omega
set_option maxRecDepth 100000 in
set_option maxHeartbeats 2000000 in
theorem whole_any(q:Int×Int)(hq:0<q.2)(hs:smQ q)(w:World):Calls Tryz.prog 20 #[qv q] w λe w'=>e=.returned (.tuple #[.int .i64 (wV q),.bool (wOk q)])/\Below w.heap.size w w':=by
 obtain⟨a,b⟩:=q
 have HB:=Lib.hid (balloc (brefl w) (.cells #[.int .i64 a,.int .i64 b] 59))
 unfold smQ at hs
 dsimp only at hq hs
 obtain⟨t,ht⟩:∃t,a.tdiv b=t:=⟨_,rfl⟩
 have hta:t.natAbs<=a.natAbs:=by rw[<-ht];exact Int.natAbs_tdiv_le_natAbs _ _
 have k1:decide (b<1)=false:=decide_eq_false (by omega)
 have k2:IntKind.i64.wrap t=t:=by rw[IntKind.wrap_i64];omega
 have k3:¬(b=0):=by omega
 by_cases h1:a<0
 ·have e1:wOk (a,b)=false:=by unfold wOk;simp[h1]
  have e2:wV (a,b)=0:=by unfold wV;rw[e1];rfl
  rw[e1,e2]
  have k4:decide (a<0)=true:=decide_eq_true h1
  clear e1 e2 hs hta ht h1 k2 k3
  go_enter Tryz.func20,Tryz.ntmps20
  go_wp2
  go_ret2
  exact⟨rfl,HB.out⟩
 have k4:decide (a<0)=false:=decide_eq_false h1
 by_cases h2:100<t
 ·have e1:wOk (a,b)=false:=by unfold wOk;simp[ht,h2]
  have e2:wV (a,b)=0:=by unfold wV;rw[e1];rfl
  rw[e1,e2]
  have k5:decide (100<t)=true:=decide_eq_true h2
  clear e1 e2 hs hta h1
  go_enter Tryz.func20,Tryz.ntmps20
  go_wp2
  go_ret2
  exact⟨rfl,HB.out⟩
 ·have e1:wOk (a,b)=true:=by unfold wOk;simp[ht];omega
  have e2:wV (a,b)=t:=by unfold wV;rw[if_pos e1,ht]
  rw[e1,e2]
  have k5:decide (100<t)=false:=decide_eq_false h2
  clear e1 e2 hs hta h1
  go_enter Tryz.func20,Tryz.ntmps20
  go_wp2
  go_ret2
  exact⟨rfl,HB.out⟩
end Go.Proofs.YtednconodjeniaaGreat.P
