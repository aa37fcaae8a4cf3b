/- clip.table.count: how many best cuts there are, from each place on. -/
import Derived.Test.YtednconodjeniaaGreatCOpen
import Derived.Test.YtednconodjeniaaGreatCPath
import Derived.Deep.OwnRows
namespace Go.Proofs.YtednconodjeniaaGreat.C
open Go.RowKit Go.Shelf
attribute [local go_sem] Oper.semAt_some
def numArr(n:Nat)(M:Nat->Int):Array Value:=((List.range n).map (λj=>Value.int .i64 (M j))).toArray
theorem numArr_get{n:Nat}{M:Nat->Int}{j:Nat}(h:j<n):(numArr n M)[j]? =some (.int .i64 (M j)):=by simp[numArr,h]
theorem numArr_set{n:Nat}{M:Nat->Int}(j:Nat)(v:Int):(numArr n M).setIfInBounds j (.int .i64 v)=numArr n (upd M j v):=by
 simp only[numArr,List.setIfInBounds_toArray]
 congr 1
 apply List.ext_getElem
 ·simp
 ·intro i h1 h2
  simp only[List.getElem_map,List.getElem_range,List.getElem_set]
  by_cases e:i=j
  ·simp[upd,e]
  ·rw[if_neg (λh=>e h.symm)];simp[upd,e]
theorem numArr_made(n:Nat):madeCells #[Value.int .i64 0] n=numArr n (λ_=>0):=by
 apply Array.ext
 ·simp[madeCells,numArr]
 ·intro i h1 h2
  simp[madeCells,numArr,Nat.mod_one]
theorem info_long:(Tryz.prog.info? 2).map (λi=>(i.zero,i.size,i.bytes))=some (some (.int .i64 0),1,8):=by kernel_rfl
theorem make_longs(n:Nat)(hn:n<=1000)(W:World):
 (Instr.makeSlice 43 (.int .i64 ((n:Int)+1)) (.int .i64 ((n:Int)+1))).run Tryz.prog W=.ok (.slice (some ⟨W.heap.size,0,none⟩) (n+1) (n+1)) (W.alloc (.cells (numArr (n+1) (λ_=>0)) 2)):=by
 have h:=run_make_row' (P:=Tryz.prog) 43 2 (.int .i64 0) 8 (by kernel_rfl) info_long rfl .i64 .i64 (n+1) (by omega) (by omega) W
 rw[numArr_made]at h
 exact_mod_cast h
structure CT(w W:World)(T L:Nat)(M:Nat->Int):Prop where
 bel:Below w.heap.size w W
 b0:Blk W w.heap.size 72 #[.pointer (some ⟨T,0,none⟩)]
 b1:Blk W (w.heap.size+1) 2 (numArr (L+1) M)
 b2:Blk W (w.heap.size+1+1) 43 #[.slice (some ⟨w.heap.size+1,0,none⟩) (L+1) (L+1)]
section
variable{w W W':World}{T L:Nat}{M:Nat->Int}
theorem CT.later(h:CT w W T L M)(hb:Below W.heap.size W W'):CT w W' T L M:=
 ⟨Below.later h.bel hb,h.b0.later hb,h.b1.later hb,h.b2.later hb⟩
theorem CT.kept{B:Nat}(h:CT w W T L M)(hk:Kept B W W')(hB:w.heap.size<=B):CT w W' T L M:=
 ⟨h.bel.trans ⟨hk.os,hk.tape,hk.output,hk.size,λi hi=>hk.low i (by omega) (by have:=h.bel.size;omega)⟩,h.b0.kept hk,h.b1.kept hk,h.b2.kept hk⟩
theorem CT.set(h:CT w W T L M)(j:Nat)(v:Int):CT w (W.setCell ⟨w.heap.size+1,j,none⟩ (.int .i64 v)) T L (upd M j v):=
 ⟨h.bel.setCell (by show w.heap.size<=w.heap.size+1;omega) _,h.b0.other (by show w.heap.size+1≠_;omega) _,by have:=h.b1.set j (.int .i64 v);rwa[numArr_set]at this,h.b2.other (by show w.heap.size+1≠_;omega) _⟩
theorem CT.cells(h:CT w W T L M):W.cell? ⟨w.heap.size,0,none⟩=some (.pointer (some ⟨T,0,none⟩))/\
 W.cell? ⟨w.heap.size+1+1,0,none⟩=some (.slice (some ⟨w.heap.size+1,0,none⟩) (L+1) (L+1))/\w.heap.size+1+1<W.heap.size:=
 ⟨h.b0.cell 0,h.b2.cell 0,h.b2.lt⟩
theorem CT.num(h:CT w W T L M){j:Nat}(hj:j<=L):W.cell? ⟨w.heap.size+1,j,none⟩=some (.int .i64 (M j)):=by rw[h.b1.cell,numArr_get (by omega)]
end
def LoopC(w:World)(T L:Nat)(ks:List Kd)(F Bh:Nat->Int)(n:Nat)(a:Act)(W:World):Prop:=
 ∃i,i+n=L/\Fits (none::some (.pointer (some ⟨w.heap.size,0,none⟩))::none::some (.pointer (some ⟨w.heap.size+1+1,0,none⟩))::none::none::none::none::none::none::none::none::none::none::none::none::none::none::none::none::none::none::none::none::none::some (.int .i64 (L:Nat))::some (.int .i64 (i:Nat))::none::none::none::none::none::none::none::none::none::none::none::none::none::none::none::none::none::none::none::none::none::none::none::none::none::none::none::none::none::none::none::none::none::none::none::none::none::none::none::none::none::none::none::none::none::none::none::none::none::none::none::none::none::none::none::none::none::none::none::none::none::none::none::none::none::none::none::none::none::none::none::none::none::none::none::none::none::[]) a.tmps.toList/\Marks w.heap.size W a.defers/\CT w W T L (manyAt L F ks Bh i)
set_option maxRecDepth 100000 in
set_option maxHeartbeats 2000000 in
theorem count_any(T L:Nat)(FA:Option Addr)(fn fc:Nat)(KA:Option Addr)(kc:Nat)(fs:List Int)(ks:List Kd)(w:World)(hT:TabOk w T L FA fn fc KA kc fs ks):
 Calls Tryz.prog 130 #[.pointer (some ⟨T,0,none⟩)] w λe w'=>e=.returned (.int .i64 (manyAt L (Fst fs L) ks (behindAt L (Fst fs L) ks L) L 0))/\Below w.heap.size w w':=by
 obtain⟨htab,hko,hL1,hL2,hne⟩:=hT
 have hB24:=behindAt_bd (L:=L) (F:=Fst fs L) hko L (Nat.le_refl _)
 obtain⟨Bh,hBh⟩:∃Bh,behindAt L (Fst fs L) ks L=Bh:=⟨_,rfl⟩
 rw[hBh]at hB24 ⊢
 have HBh:=Lib.hid hBh
 have HB24:=Lib.hid hB24
 have HT:=Lib.hid htab
 have Hk:=Lib.hid hko
 have Hne:=Lib.hid hne
 have hTl:=htab.core.lt
 have t0:=htab.core.len
 clear htab hko hne hBh hB24
 refine calls_of_marks Tryz.func130 rfl ?_
 simp only[Tryz.ntmps130,List.size_toArray,List.length_cons,List.length_nil,Nat.reduceAdd,Nat.reduceSub,Array.replicate_succ,Array.replicate_zero,List.push_toArray,List.append_toArray,List.nil_append,List.cons_append]
 have hmk:=make_longs L (by omega)
 have jL:(L:Int)<(L:Int)+1:=by omega
 have hTs:T<w.heap.size+1:=by omega
 have hTs2:T<w.heap.size+1+1:=by omega
 go_wp2_with fail
 refine dag 7 (by kernel_rfl) (by kernel_rfl) (.is ?_::.is ?_::.is ?_::.is ?_::.is ?_::.is ?_::.is ?_::[]) rfl ?st ?ob
 case ob=>
  intro env W' hG
  obtain⟨hc,hf⟩:=bcell hG
  have zW:=hG.size
  simp at zW
  repeat (refine obls_is ?_ ?_;unfold doesAt;go_simp;(try go_bits);refine⟨brefl _,?_⟩;rfl;intro K hK;go_simp;refine hK _ ?_;clear hK K)
  refine obls_last (λ_=>?_)
  have hN0:CT w (((w.alloc (Obj.cells #[Value.pointer (some ⟨T,0,none⟩)] 72)).alloc (Obj.cells (numArr (L+1) λ_=>0) 2)).alloc (Obj.cells #[Value.slice (some ⟨w.heap.size+1,0,none⟩) (L+1) (L+1)] 43)) T L (λ_=>0):=by
   refine⟨balloc (balloc (balloc (brefl w) _) _) _,((Blk.new w _ _).alloc _).alloc _,?_,?_⟩
   ·have h5:=(Blk.new (w.alloc (Obj.cells #[Value.pointer (some ⟨T,0,none⟩)] 72)) 2 (numArr (L+1) λ_=>0)).alloc (Obj.cells #[Value.slice (some ⟨w.heap.size+1,0,none⟩) (L+1) (L+1)] 43)
    rw[World.size_alloc]at h5
    exact h5
   ·have h5:=Blk.new ((w.alloc (Obj.cells #[Value.pointer (some ⟨T,0,none⟩)] 72)).alloc (Obj.cells (numArr (L+1) λ_=>0) 2)) 43 #[Value.slice (some ⟨w.heap.size+1,0,none⟩) (L+1) (L+1)]
    rw[World.size_alloc,World.size_alloc]at h5
    exact h5
  have hN1:CT w (W'.setCell ⟨w.heap.size+1,L,none⟩ (.int .i64 1)) T L (manyAt L (Fst fs L) ks Bh 0):=(hN0.later hG).set L 1
  have hfz:=(hN0.later hG).b1.frozen L
  have hnm:(numArr (L+1) λ_=>0)[L]? =some (.int .i64 0):=numArr_get (by omega)
  unfold doesAt
  go_simp
  obtain⟨W2,hW2⟩:∃W2,W'.setCell ⟨w.heap.size+1,L,none⟩ (.int .i64 1)=W2:=⟨_,rfl⟩
  rw[hW2]at hN1 ⊢
  have HN1:=Lib.hid hN1
  have t0:=(hN1.bel.cell (p:=⟨T,0,none⟩) hTl).trans t0
  obtain⟨c0,c1,hsz⟩:=hN1.cells
  clear hN0 hN1 hW2 hc hf hG zW hmk hfz hnm
  go_wp2_with fail
  refine loop_n (LoopC w T L ks (Fst fs L) Bh) L ?_ ?_
  ·refine⟨0,by omega,?_,Marks.nil _ _,HN1.out⟩
   repeat (first|exact fits_nil|refine fits_none ?_|refine fits_some ?_)
  clear HN1 c0 c1 t0 hsz
  intro n a W hI K hK
  obtain⟨i,hin,hfit,hm,hN⟩:=hI
  obtain⟨f,hf⟩:=fits_act hfit
  generalize a.defers=ds at*
  subst hf
  clear hfit
  simp only[fillP,Nat.reduceAdd]
  have t0:=(hN.bel.cell (p:=⟨T,0,none⟩) hTl).trans HT.out.core.len
  by_cases hlt:i<L
  ·obtain⟨m,hmL⟩:∃m,m=L-1-i:=⟨_,rfl⟩
   have jm:(L:Int)-1-(i:Int)=(m:Int):=by omega
   have hm24:m<24:=by omega
   have hmL':m+1<=L:=by omega
   obtain⟨c0,c1,hsz⟩:=hN.cells
   have z0:w.heap.size<W.heap.size:=by omega
   have z1:w.heap.size+1<W.heap.size:=by omega
   have z2:T<W.heap.size:=by omega
   have htW:=HT.out.later hN.bel
   have t2:=htW.be m (by omega)
   have t3:=htW.be (m+1) (by omega)
   rw[HBh.out]at t2 t3
   have n3:=hN.num (j:=m+1) (by omega)
   have hfz:W.frozen? ⟨w.heap.size+1,m,none⟩=false:=hN.b1.frozen _
   have j0:(0:Int)<=(m:Int)+1:=by omega
   have j1:(m:Int)+1<25:=by omega
   have j2:((m:Int)+1).toNat=m+1:=by omega
   have j3:(m:Int)<25:=by omega
   have j4:(m:Int)<(L:Int)+1:=by omega
   have j5:(m:Int)+1<(L:Int)+1:=by omega
   have hA2:manyAt L (Fst fs L) ks Bh (i+1)=manyIn ks m Bh (if Bh m=Bh (m+1)then upd (manyAt L (Fst fs L) ks Bh i) m (manyAt L (Fst fs L) ks Bh i (m+1))else manyAt L (Fst fs L) ks Bh i) ((List.range ks.length).filter (canI L (Fst fs L) ks m)):=by rw[hmL];rfl
   have hS1:ManyIn L m 0 (decide (Bh m=Bh (m+1))) (if Bh m=Bh (m+1)then upd (manyAt L (Fst fs L) ks Bh i) m (manyAt L (Fst fs L) ks Bh i (m+1))else manyAt L (Fst fs L) ks Bh i):=by
    have:=manyAt_start (k:=i) hlt (Bh:=Bh) (manyAt_ok (F:=Fst fs L) Hk.out Bh i (by omega))
    rw[<-hmL]at this
    exact this
   generalize manyAt L (Fst fs L) ks Bh i=M0 at*
   have HM:=Lib.hid hm
   have HN:=Lib.hid hN
   have HmL:=Lib.hid hmL
   clear hm hN htW hmL
   by_cases htie:Bh m=Bh (m+1)
   ·rw[if_pos htie]at hA2 hS1
    have htb:(Bh m==Bh (m+1))=true:=by simpa using htie
    clear htie
    go_wp2_with fail
    refine dag 14 (by kernel_rfl) (by kernel_rfl) (.is ?_::.is ?_::.is ?_::.is ?_::.is ?_::.is ?_::.is ?_::.is ?_::.is ?_::.is ?_::.is ?_::.is ?_::.is ?_::.is ?_::[]) rfl ?st2 ?ob2
    case st2=>simp[Spec.ok]
    case ob2=>
     intro env W' hG
     obtain⟨hc,hf⟩:=bcell hG
     have zW:=hG.size
     repeat (refine obls_is ?_ ?_;unfold doesAt;go_simp;(try go_bits);refine⟨brefl _,?_⟩;rfl;intro K hK;go_simp;refine hK _ ?_;clear hK K)
     refine obls_nil (λ_=>?_)
     have hGG:Gr W W':=Below.later (balloc (brefl W) _) hG
     have hN':=HN.out.later hGG
     have hBi':Blk W' W.heap.size 3 #[.int .i64 m]:=(Blk.new W _ _).later hG
     have n3':=hN'.num (j:=m+1) (by omega)
     have n4':=hN'.num (j:=m) (by omega)
     have hfz':W'.frozen? ⟨w.heap.size+1,m,none⟩=false:=hN'.b1.frozen _
     have q0:=hBi'.cell 0
     have zq:=hBi'.lt
     clear c0 c1 hsz z0 z1 z2 n3 hfz hc hf t0 t2 t3 zW
     obtain⟨c0,c1,hsz⟩:=hN'.cells
     have z0:w.heap.size<W'.heap.size:=by omega
     have z1:w.heap.size+1<W'.heap.size:=by omega
     have zN:=HN.out.b2.lt
     have HN':=Lib.hid hN'
     have HBi':=Lib.hid hBi'
     have HGG:=Lib.hid hGG
     clear hN' hBi' hGG hG
     generalize W.heap.size=NQ at*
     go_wp2_with fail
     refine dag 8 (by kernel_rfl) (by kernel_rfl) (.is ?_::.is ?_::.is ?_::.is ?_::.is ?_::.is ?_::.is ?_::.is ?_::[]) rfl ?st3 ?ob3
     case st3=>simp[Spec.ok]
     case ob3=>
      intro env2 W1 hG1
      obtain⟨hc1,hf1⟩:=bcell hG1
      repeat (refine obls_is ?_ ?_;unfold doesAt;go_simp;(try go_bits);refine⟨brefl _,?_⟩;rfl;intro K hK;go_simp;refine hK _ ?_;clear hK K)
      refine obls_last (λ_=>?_)
      have hN2:=(HN'.out.later hG1).set m (M0 (m+1))
      unfold doesAt
      go_simp
      obtain⟨W2,hW2⟩:∃W2,W1.setCell ⟨w.heap.size+1,m,none⟩ (.int .i64 (M0 (m+1)))=W2:=⟨_,rfl⟩
      have hm2:Marks w.heap.size W2 ds:=by rw[<-hW2];exact(HM.out.later (HGG.out.trans (hG1.mono (by have:=HGG.out.size;omega)))).setCell _ _
      have hBi2:Blk W2 NQ 3 #[.int .i64 m]:=by rw[<-hW2];exact(HBi'.out.later hG1).other (by show w.heap.size+1≠NQ;omega) _
      rw[hW2]at hN2 ⊢
      generalize upd M0 m (M0 (m+1))=M1 at*
      clear hW2 hc1 hf1 hG1 HM HN HN' HBi' HGG c0 c1 hsz z0 z1 n3' n4' hfz' q0 zq zN jm
      have HM2:=Lib.hid hm2
      have hN2s:=hN2.bel.size
      obtain⟨c0,c1,hsz⟩:=hN2.cells
      have q0:=hBi2.cell 0
      have zq:=hBi2.lt
      have HN2:=Lib.hid hN2
      have HBi2:=Lib.hid hBi2
      have HS1:=Lib.hid hS1
      have HA2:=Lib.hid hA2
      clear hN2 hm2 hBi2 hS1 hA2
      go_wp2_with fail
      refine(sheets_any T m W2).mono ?_
      rintro e w3⟨rfl,hw3⟩
      have hb3:Below W2.heap.size W2 w3:=by rw[<-hw3];exact balloc (balloc (brefl _) _) _
      have d1:w3.cell? ⟨W2.heap.size,0,none⟩=some (.pointer (some ⟨T,0,none⟩)):=by rw[<-hw3];exact((Blk.new W2 _ _).alloc _).cell 0
      have d2:w3.cell? ⟨W2.heap.size+1,0,none⟩=some (.int .i64 m):=by rw[<-hw3];have h5:=(Blk.new (W2.alloc (.cells #[.pointer (some ⟨T,0,none⟩)] 72)) 3 #[.int .i64 m]).cell 0;rw[World.size_alloc]at h5;exact h5
      have d3:w3.heap.size=W2.heap.size+1+1:=by rw[<-hw3];simp
      have D3:=Lib.hid d3
      have Hb3:=Lib.hid hb3
      have D1:=Lib.hid d1
      have D2:=Lib.hid d2
      clear hw3 hb3 d1 d2 d3
      go_wp2_with fail
      have hN3:=HN2.out.later Hb3.out
      refine range_sheets (B1:=W2.heap.size) (B2:=W2.heap.size+1) (T:=T) (L:=L) (F:=Fst fs L) (fr:=m) (d:=6) (w:=w3) rfl Hk.out hL2 (Fst_bd fs hL2) (by omega) Hne.out (by rw[D3.out];omega) (by rw[D3.out];omega) D1.out D2.out (HT.out.later hN3.bel).core
       (λ(pre:List (Ki L (Fst fs L) ks m))W=>CT w W T L (manyIn ks m Bh M1 (pre.map Subtype.val))/\Blk W NQ 3 #[.int .i64 m]/\KeepD w3 W)
       (λ_ _ _=>False)
       ?hI1 (λ_ _ _ _ _ h=>h)
       ⟨hN3,HBi2.out.later Hb3.out,KeepD.refl _⟩ ?assign1 ?body1 ?done1 ?stop1
      case hI1=>exactλpre W W' hK h=>⟨h.1.kept hK (by rw[D3.out];omega),h.2.1.kept hK,h.2.2.kept hK⟩
      case assign1=>
       intro l x W K hK
       gi_wp2
       exact hK
      case body1=>
       intro l pre x Bx W hWs hBx hbx hI hpl
       obtain⟨hN,hBi,hKD⟩:=hI
       obtain⟨k,hkc⟩:=x
       obtain⟨y,hy,hcb⟩:∃y,ks[k]? =some y/\canB L (Fst fs L) y m=true:=by
        unfold canI at hkc
        cases hy:ks[k]? with
        |none=>rw[hy]at hkc;cases hkc
        |some y=>rw[hy]at hkc;exact⟨y,rfl,hkc⟩
       have hybd:=Hk.out.bd hy
       obtain⟨wd,hwd⟩:∃wd:Nat,y.w=wd:=⟨y.w.toNat,by omega⟩
       have hle:=(canB_iff.1 hcb).1
       have hst:=manyAt_step (L:=L) (i:=m) (F:=Fst fs L) Hk.out (Bh:=Bh) rfl (pre.map Subtype.val) ⟨0,Nat.le_refl _,HS1.out⟩ (λj hj=>by obtain⟨z,_,rfl⟩:=List.mem_map.1 hj;exact z.2)
       obtain⟨t,ht,hst⟩:=hst
       have ht6:t+1<=6:=by
        have:=Hk.out.2.1
        simp at ht
        omega
       have hbig1:=hst.big (by omega) (by omega) hL2
       have hsn:manyIn ks m Bh M1 ((pre++[(⟨k,hkc⟩:Ki L (Fst fs L) ks m)]).map Subtype.val)=if y.p+Bh (m+wd)=Bh m then upd (manyIn ks m Bh M1 (pre.map Subtype.val)) m (manyIn ks m Bh M1 (pre.map Subtype.val) m+manyIn ks m Bh M1 (pre.map Subtype.val) (m+wd))else manyIn ks m Bh M1 (pre.map Subtype.val):=by
        rw[List.map_append,List.map_cons,List.map_nil,manyIn_snoc]
        simp[List.getD,hy,hwd]
       generalize manyIn ks m Bh M1 (pre.map Subtype.val)=M2 at hN hst hsn hbig1
       obtain⟨kb,ko,y',hKA,hkb,hy',e0,e1,_⟩:=(HT.out.later hN.bel).core.kds.ltK (List.getElem?_eq_some_iff.1 hy).1
       rw[hy]at hy'
       cases hy'
       have hendW:∀W',Gr W W'->Calls Tryz.prog 38 #[.pointer (some ⟨T,0,none⟩),.agg #[.int .i64 m,.int .i64 k]] W' λe w'=>e=.returned (.int .i64 (m+wd))/\Below W'.heap.size W' w':=by
        intro W' hG
        have h5:=end_tab ((HT.out.later hN.bel).core.later hG) Hk.out hy (m:Int) (by omega) (by omega)
        rw[hwd]at h5
        exact h5
       have HendW:=Lib.hid hendW
       rw[hwd]at e0
       obtain⟨c0,c1,hsz⟩:=hN.cells
       have htW:=HT.out.later hN.bel
       have b0:=hbx.cell 0
       have b1:=hbx.cell 1
       have zb:=hbx.lt
       have q0:=hBi.cell 0
       have zq:=hBi.lt
       have t1:=htW.core.knd
       have t2:=htW.be m (by omega)
       have t3:=htW.be (m+wd) (by omega)
       have hnum:=hN.num (j:=m) (by omega)
       have hnum2:=hN.num (j:=m+wd) (by omega)
       have hfz:W.frozen? ⟨w.heap.size+1,m,none⟩=false:=hN.b1.frozen _
       have hkl:k<ks.length:=(List.getElem?_eq_some_iff.1 hy).1
       have hbd1:=HB24.out m
       have hbd2:=HB24.out (m+wd)
       have hM1:=hbig1 m (by omega)
       have hM2:=hbig1 (m+wd) (by omega)
       subst hKA
       have hkne:kb<w.heap.size:=by
        obtain⟨b',o',hA,hB,_⟩:=HT.out.core.kds.at_ (by omega)
        cases hA;exact hB
       have z0:w.heap.size<W.heap.size:=by omega
       have z1:w.heap.size+1<W.heap.size:=by omega
       have z2:T<W.heap.size:=by omega
       have j0:(0:Int)<=(m:Int)+(wd:Int):=by omega
       have j1:(m:Int)+(wd:Int)<25:=by omega
       have j2:((m:Int)+(wd:Int)).toNat=m+wd:=by omega
       have j3:(m:Int)<25:=by omega
       have j4:m<L+1:=by omega
       have j5:m+wd<L+1:=by omega
       have j6:(m:Int)+(wd:Int)<(L:Int)+1:=by omega
       have j7:(m:Int)<(L:Int)+1:=by omega
       rw[HBh.out]at t2 t3
       have hp:1<=y.p/\y.p<=1000:=hybd.2.1
       by_cases htie:y.p+Bh (m+wd)=Bh m
       ·rw[if_pos htie]at hsn
        have hstep:=(hst.step rfl (by omega) hp.1 (by omega) htie).big (by omega) (by omega) hL2 m (by omega)
        simp only[upd,if_true]at hstep
        obtain⟨hs1,hs2⟩:=hstep
        obtain⟨hM1,hM1'⟩:=hM1
        obtain⟨hM2,hM2'⟩:=hM2
        obtain⟨hbd1,hbd1'⟩:=hbd1
        obtain⟨hbd2,hbd2'⟩:=hbd2
        have hbd3:Bh (m+wd)<=24000:=by omega
        have htb2:(y.p+Bh (m+wd)==Bh m)=true:=by simpa using htie
        have Hsn:=Lib.hid hsn
        have HN:=Lib.hid hN
        have Hbx:=Lib.hid hbx
        have HBi:=Lib.hid hBi
        have HKD:=Lib.hid hKD
        have HW3:=Lib.hid hWs
        have HtW:=Lib.hid htW
        clear hsn hN hbx hBi hKD hendW hwd hy hcb hybd hWs htW hst hbig1 htie hbd1' hbd2'
        unfold boxedAct
        gi_wp2_with fail
        refine dagIn 25 (lets_round l 7 _) (by kernel_rfl) (by kernel_rfl) (.is ?_::.is ?_::.is ?_::.is ?_::.is ?_::.is ?_::.is ?_::.is ?_::.is ?_::.is ?_::.is ?_::.is ?_::.is ?_::.is ?_::.is ?_::.is ?_::.is ?_::.is ?_::.is ?_::.is ?_::.is ?_::.is ?_::.is ?_::.is ?_::.is ?_::[]) rfl ?st41 ?ob41
        case st41=>simp[Spec.ok]
        case ob41=>
         intro env W' hG
         obtain⟨hc,hf⟩:=bcell hG
         iterate 12 (refine obls_is ?_ ?_;unfold doesAt;go_simp;(try go_bits);refine⟨brefl _,?_⟩;rfl;intro K hK;go_simp;refine hK _ ?_;clear hK K)
         refine obls_is ?_ ?_
         ·unfold doesAt
          go_simp
          refine(HendW.out W' hG).mono ?_
          rintro e w1⟨rfl,hb1⟩
          refine⟨?_,hb1⟩
          rfl
         intro K hK
         go_simp
         refine hK _ ?_
         clear hK K
         iterate 12 (refine obls_is ?_ ?_;unfold doesAt;go_simp;(try go_bits);refine⟨brefl _,?_⟩;rfl;intro K hK;go_simp;refine hK _ ?_;clear hK K)
         refine obls_nil (λ_=>?_)
         have b0':=(hc Bx 0 zb).trans b0
         have b1':=(hc Bx 1 zb).trans b1
         have q0':=(hc NQ 0 zq).trans q0
         have c0':=(hc w.heap.size 0 z0).trans c0
         have c1':=(hc (w.heap.size+1+1) 0 hsz).trans c1
         have n1':=(hc (w.heap.size+1) m z1).trans hnum
         have n2':=(hc (w.heap.size+1) (m+wd) z1).trans hnum2
         have f1':=(hf (w.heap.size+1) m z1).trans hfz
         have zW:=hG.size
         have zb':Bx<W'.heap.size:=by omega
         have zq':NQ<W'.heap.size:=by omega
         have z0':w.heap.size<W'.heap.size:=by omega
         have z1':w.heap.size+1<W'.heap.size:=by omega
         have z3':w.heap.size+1+1<W'.heap.size:=by omega
         have HG:=Lib.hid hG
         clear hc hf hG b0 b1 q0 c0 c1 hnum hnum2 hfz e0 e1 t1 t2 t3 zW
         gi_wp2_with fail
         refine dagIn 12 (lets_round l 7 _) (by kernel_rfl) (by kernel_rfl) (.is ?_::.is ?_::.is ?_::.is ?_::.is ?_::.is ?_::.is ?_::.is ?_::.is ?_::.is ?_::.is ?_::.is ?_::[]) rfl ?st61 ?ob61
         case st61=>simp[Spec.ok]
         case ob61=>
          intro env2 W1 hG1
          obtain⟨hc,hf⟩:=bcell hG1
          iterate 7 (refine obls_is ?_ ?_;unfold doesAt;go_simp;(try go_bits);refine⟨brefl _,?_⟩;rfl;intro K hK;go_simp;refine hK _ ?_;clear hK K)
          refine obls_is ?_ ?_
          ·unfold doesAt
           go_simp
           refine(HendW.out W1 (Below.later HG.out hG1)).mono ?_
           rintro e w1⟨rfl,hb1⟩
           refine⟨?_,hb1⟩
           rfl
          intro K hK
          go_simp
          refine hK _ ?_
          clear hK K
          iterate 4 (refine obls_is ?_ ?_;unfold doesAt;go_simp;(try go_bits);refine⟨brefl _,?_⟩;rfl;intro K hK;go_simp;refine hK _ ?_;clear hK K)
          refine obls_last (λ_=>?_)
          have hGG:Gr W W1:=Below.later HG.out hG1
          have hN4:=(HN.out.later hGG).set m (M2 m+M2 (m+wd))
          unfold doesAt
          go_simp
          exact⟨(KeepsFrom.later hGG).trans (KeepsFrom.set _ _ _),(KpT.of_below hGG (by have:=HW3.out;rw[D3.out]at this;omega) (by have:=HW3.out;rw[D3.out]at this;omega) (by omega) (λb o h=>by cases h;omega)).trans (KpT.set _ (p:=⟨w.heap.size+1,m,none⟩) (by show w.heap.size+1≠W2.heap.size;have:=HN2.out.b2.lt;omega) (by show w.heap.size+1≠W2.heap.size+1;have:=HN2.out.b2.lt;omega) (λh=>by have h':w.heap.size+1=T:=h;omega) (λo h=>by cases h;exfalso;have hh:w.heap.size+1<w.heap.size:=hkne;omega) _),by rw[Hsn.out];exact hN4,
           (HBi.out.later hGG).other (by show w.heap.size+1≠NQ;exact Blk.apart HN.out.b1 HBi.out (by decide)) _,(HKD.out.later hGG).set _ _⟩
       ·rw[if_neg htie]at hsn
        obtain⟨hM1,hM1'⟩:=hM1
        obtain⟨hM2,hM2'⟩:=hM2
        obtain⟨hbd1,hbd1'⟩:=hbd1
        obtain⟨hbd2,hbd2'⟩:=hbd2
        have hbd3:Bh (m+wd)<=24000:=by omega
        have htb2:(y.p+Bh (m+wd)==Bh m)=false:=by simpa using htie
        have Hsn:=Lib.hid hsn
        have HN:=Lib.hid hN
        have Hbx:=Lib.hid hbx
        have HBi:=Lib.hid hBi
        have HKD:=Lib.hid hKD
        have HW3:=Lib.hid hWs
        have HtW:=Lib.hid htW
        clear hsn hN hbx hBi hKD hendW hwd hy hcb hybd hWs htW hst hbig1 htie hbd1' hbd2'
        unfold boxedAct
        gi_wp2_with fail
        refine dagIn 25 (lets_round l 7 _) (by kernel_rfl) (by kernel_rfl) (.is ?_::.is ?_::.is ?_::.is ?_::.is ?_::.is ?_::.is ?_::.is ?_::.is ?_::.is ?_::.is ?_::.is ?_::.is ?_::.is ?_::.is ?_::.is ?_::.is ?_::.is ?_::.is ?_::.is ?_::.is ?_::.is ?_::.is ?_::.is ?_::.is ?_::[]) rfl ?st71 ?ob71
        case st71=>simp[Spec.ok]
        case ob71=>
         intro env W' hG
         obtain⟨hc,hf⟩:=bcell hG
         iterate 12 (refine obls_is ?_ ?_;unfold doesAt;go_simp;(try go_bits);refine⟨brefl _,?_⟩;rfl;intro K hK;go_simp;refine hK _ ?_;clear hK K)
         refine obls_is ?_ ?_
         ·unfold doesAt
          go_simp
          refine(HendW.out W' hG).mono ?_
          rintro e w1⟨rfl,hb1⟩
          refine⟨?_,hb1⟩
          rfl
         intro K hK
         go_simp
         refine hK _ ?_
         clear hK K
         iterate 12 (refine obls_is ?_ ?_;unfold doesAt;go_simp;(try go_bits);refine⟨brefl _,?_⟩;rfl;intro K hK;go_simp;refine hK _ ?_;clear hK K)
         refine obls_nil (λ_=>?_)
         clear hc hf
         gi_wp2
         exact⟨KeepsFrom.later hG,KpT.of_below hG (by have:=HW3.out;rw[D3.out]at this;omega) (by have:=HW3.out;rw[D3.out]at this;omega) (by omega) (λb o h=>by cases h;omega),by rw[Hsn.out];exact HN.out.later hG,HBi.out.later hG,HKD.out.later hG⟩
      case done1=>
       intro D W5 hD hI5 hd
       obtain⟨hN5,_,hKD5⟩:=hI5
       have hval:(kiTo L (Fst fs L) ks m ks.length).map Subtype.val=(List.range ks.length).filter (canI L (Fst fs L) ks m):=kiTo_val _ _ _ _ _
       rw[hval,<-HA2.out]at hN5
       have hmk:Marks w.heap.size W5 (mark D::ds):=(HM2.out.later Hb3.out).cons hD (by rw[D3.out];omega) hd (λk c _ hk=>hKD5 k c hk)
       have HN5:=Lib.hid hN5
       have Hmk:=Lib.hid hmk
       clear hN5 hKD5 hd hmk hval
       go_wp2
       refine hK _ _ (n-1) (by omega) ⟨i+1,by omega,?_,Hmk.out,HN5.out⟩
       repeat (first|exact fits_nil|refine fits_none ?_|refine fits_some ?_)
      case stop1=>exactλ_ _ _ _ _ _ h _=>h.elim
   ·rw[if_neg htie]at hA2 hS1
    have htb:(Bh m==Bh (m+1))=false:=by simpa using htie
    clear htie
    go_wp2_with fail
    refine dag 14 (by kernel_rfl) (by kernel_rfl) (.is ?_::.is ?_::.is ?_::.is ?_::.is ?_::.is ?_::.is ?_::.is ?_::.is ?_::.is ?_::.is ?_::.is ?_::.is ?_::.is ?_::[]) rfl ?st5 ?ob5
    case st5=>simp[Spec.ok]
    case ob5=>
     intro env W2 hG
     obtain⟨hc,hf⟩:=bcell hG
     have zW:=hG.size
     repeat (refine obls_is ?_ ?_;unfold doesAt;go_simp;(try go_bits);refine⟨brefl _,?_⟩;rfl;intro K hK;go_simp;refine hK _ ?_;clear hK K)
     refine obls_nil (λ_=>?_)
     have hGG:Gr W W2:=Below.later (balloc (brefl W) _) hG
     have hN2:=HN.out.later hGG
     have hBi2:Blk W2 W.heap.size 3 #[.int .i64 m]:=(Blk.new W _ _).later hG
     have hm2:=HM.out.later hGG
     clear c0 c1 hsz z0 z1 z2 n3 hfz hc hf t0 t2 t3 zW hGG hG HM HN jm
     generalize W.heap.size=NQ at*
     generalize M0=M1 at*
     have HM2:=Lib.hid hm2
     have hN2s:=hN2.bel.size
     obtain⟨c0,c1,hsz⟩:=hN2.cells
     have q0:=hBi2.cell 0
     have zq:=hBi2.lt
     have HN2:=Lib.hid hN2
     have HBi2:=Lib.hid hBi2
     have HS1:=Lib.hid hS1
     have HA2:=Lib.hid hA2
     clear hN2 hm2 hBi2 hS1 hA2
     go_wp2_with fail
     refine(sheets_any T m W2).mono ?_
     rintro e w3⟨rfl,hw3⟩
     have hb3:Below W2.heap.size W2 w3:=by rw[<-hw3];exact balloc (balloc (brefl _) _) _
     have d1:w3.cell? ⟨W2.heap.size,0,none⟩=some (.pointer (some ⟨T,0,none⟩)):=by rw[<-hw3];exact((Blk.new W2 _ _).alloc _).cell 0
     have d2:w3.cell? ⟨W2.heap.size+1,0,none⟩=some (.int .i64 m):=by rw[<-hw3];have h5:=(Blk.new (W2.alloc (.cells #[.pointer (some ⟨T,0,none⟩)] 72)) 3 #[.int .i64 m]).cell 0;rw[World.size_alloc]at h5;exact h5
     have d3:w3.heap.size=W2.heap.size+1+1:=by rw[<-hw3];simp
     have D3:=Lib.hid d3
     have Hb3:=Lib.hid hb3
     have D1:=Lib.hid d1
     have D2:=Lib.hid d2
     clear hw3 hb3 d1 d2 d3
     go_wp2_with fail
     have hN3:=HN2.out.later Hb3.out
     refine range_sheets (B1:=W2.heap.size) (B2:=W2.heap.size+1) (T:=T) (L:=L) (F:=Fst fs L) (fr:=m) (d:=6) (w:=w3) rfl Hk.out hL2 (Fst_bd fs hL2) (by omega) Hne.out (by rw[D3.out];omega) (by rw[D3.out];omega) D1.out D2.out (HT.out.later hN3.bel).core
      (λ(pre:List (Ki L (Fst fs L) ks m))W=>CT w W T L (manyIn ks m Bh M1 (pre.map Subtype.val))/\Blk W NQ 3 #[.int .i64 m]/\KeepD w3 W)
      (λ_ _ _=>False)
      ?hI2 (λ_ _ _ _ _ h=>h)
      ⟨hN3,HBi2.out.later Hb3.out,KeepD.refl _⟩ ?assign2 ?body2 ?done2 ?stop2
     case hI2=>exactλpre W W' hK h=>⟨h.1.kept hK (by rw[D3.out];omega),h.2.1.kept hK,h.2.2.kept hK⟩
     case assign2=>
      intro l x W K hK
      gi_wp2
      exact hK
     case body2=>
      intro l pre x Bx W hWs hBx hbx hI hpl
      obtain⟨hN,hBi,hKD⟩:=hI
      obtain⟨k,hkc⟩:=x
      obtain⟨y,hy,hcb⟩:∃y,ks[k]? =some y/\canB L (Fst fs L) y m=true:=by
       unfold canI at hkc
       cases hy:ks[k]? with
       |none=>rw[hy]at hkc;cases hkc
       |some y=>rw[hy]at hkc;exact⟨y,rfl,hkc⟩
      have hybd:=Hk.out.bd hy
      obtain⟨wd,hwd⟩:∃wd:Nat,y.w=wd:=⟨y.w.toNat,by omega⟩
      have hle:=(canB_iff.1 hcb).1
      have hst:=manyAt_step (L:=L) (i:=m) (F:=Fst fs L) Hk.out (Bh:=Bh) rfl (pre.map Subtype.val) ⟨0,Nat.le_refl _,HS1.out⟩ (λj hj=>by obtain⟨z,_,rfl⟩:=List.mem_map.1 hj;exact z.2)
      obtain⟨t,ht,hst⟩:=hst
      have ht6:t+1<=6:=by
       have:=Hk.out.2.1
       simp at ht
       omega
      have hbig1:=hst.big (by omega) (by omega) hL2
      have hsn:manyIn ks m Bh M1 ((pre++[(⟨k,hkc⟩:Ki L (Fst fs L) ks m)]).map Subtype.val)=if y.p+Bh (m+wd)=Bh m then upd (manyIn ks m Bh M1 (pre.map Subtype.val)) m (manyIn ks m Bh M1 (pre.map Subtype.val) m+manyIn ks m Bh M1 (pre.map Subtype.val) (m+wd))else manyIn ks m Bh M1 (pre.map Subtype.val):=by
       rw[List.map_append,List.map_cons,List.map_nil,manyIn_snoc]
       simp[List.getD,hy,hwd]
      generalize manyIn ks m Bh M1 (pre.map Subtype.val)=M2 at hN hst hsn hbig1
      obtain⟨kb,ko,y',hKA,hkb,hy',e0,e1,_⟩:=(HT.out.later hN.bel).core.kds.ltK (List.getElem?_eq_some_iff.1 hy).1
      rw[hy]at hy'
      cases hy'
      have hendW:∀W',Gr W W'->Calls Tryz.prog 38 #[.pointer (some ⟨T,0,none⟩),.agg #[.int .i64 m,.int .i64 k]] W' λe w'=>e=.returned (.int .i64 (m+wd))/\Below W'.heap.size W' w':=by
       intro W' hG
       have h5:=end_tab ((HT.out.later hN.bel).core.later hG) Hk.out hy (m:Int) (by omega) (by omega)
       rw[hwd]at h5
       exact h5
      have HendW:=Lib.hid hendW
      rw[hwd]at e0
      obtain⟨c0,c1,hsz⟩:=hN.cells
      have htW:=HT.out.later hN.bel
      have b0:=hbx.cell 0
      have b1:=hbx.cell 1
      have zb:=hbx.lt
      have q0:=hBi.cell 0
      have zq:=hBi.lt
      have t1:=htW.core.knd
      have t2:=htW.be m (by omega)
      have t3:=htW.be (m+wd) (by omega)
      have hnum:=hN.num (j:=m) (by omega)
      have hnum2:=hN.num (j:=m+wd) (by omega)
      have hfz:W.frozen? ⟨w.heap.size+1,m,none⟩=false:=hN.b1.frozen _
      have hkl:k<ks.length:=(List.getElem?_eq_some_iff.1 hy).1
      have hbd1:=HB24.out m
      have hbd2:=HB24.out (m+wd)
      have hM1:=hbig1 m (by omega)
      have hM2:=hbig1 (m+wd) (by omega)
      subst hKA
      have hkne:kb<w.heap.size:=by
       obtain⟨b',o',hA,hB,_⟩:=HT.out.core.kds.at_ (by omega)
       cases hA;exact hB
      have z0:w.heap.size<W.heap.size:=by omega
      have z1:w.heap.size+1<W.heap.size:=by omega
      have z2:T<W.heap.size:=by omega
      have j0:(0:Int)<=(m:Int)+(wd:Int):=by omega
      have j1:(m:Int)+(wd:Int)<25:=by omega
      have j2:((m:Int)+(wd:Int)).toNat=m+wd:=by omega
      have j3:(m:Int)<25:=by omega
      have j4:m<L+1:=by omega
      have j5:m+wd<L+1:=by omega
      have j6:(m:Int)+(wd:Int)<(L:Int)+1:=by omega
      have j7:(m:Int)<(L:Int)+1:=by omega
      rw[HBh.out]at t2 t3
      have hp:1<=y.p/\y.p<=1000:=hybd.2.1
      by_cases htie:y.p+Bh (m+wd)=Bh m
      ·rw[if_pos htie]at hsn
       have hstep:=(hst.step rfl (by omega) hp.1 (by omega) htie).big (by omega) (by omega) hL2 m (by omega)
       simp only[upd,if_true]at hstep
       obtain⟨hs1,hs2⟩:=hstep
       obtain⟨hM1,hM1'⟩:=hM1
       obtain⟨hM2,hM2'⟩:=hM2
       obtain⟨hbd1,hbd1'⟩:=hbd1
       obtain⟨hbd2,hbd2'⟩:=hbd2
       have hbd3:Bh (m+wd)<=24000:=by omega
       have htb2:(y.p+Bh (m+wd)==Bh m)=true:=by simpa using htie
       have Hsn:=Lib.hid hsn
       have HN:=Lib.hid hN
       have Hbx:=Lib.hid hbx
       have HBi:=Lib.hid hBi
       have HKD:=Lib.hid hKD
       have HW3:=Lib.hid hWs
       have HtW:=Lib.hid htW
       clear hsn hN hbx hBi hKD hendW hwd hy hcb hybd hWs htW hst hbig1 htie hbd1' hbd2'
       unfold boxedAct
       gi_wp2_with fail
       refine dagIn 25 (lets_round l 7 _) (by kernel_rfl) (by kernel_rfl) (.is ?_::.is ?_::.is ?_::.is ?_::.is ?_::.is ?_::.is ?_::.is ?_::.is ?_::.is ?_::.is ?_::.is ?_::.is ?_::.is ?_::.is ?_::.is ?_::.is ?_::.is ?_::.is ?_::.is ?_::.is ?_::.is ?_::.is ?_::.is ?_::.is ?_::[]) rfl ?st42 ?ob42
       case st42=>simp[Spec.ok]
       case ob42=>
        intro env W' hG
        obtain⟨hc,hf⟩:=bcell hG
        iterate 12 (refine obls_is ?_ ?_;unfold doesAt;go_simp;(try go_bits);refine⟨brefl _,?_⟩;rfl;intro K hK;go_simp;refine hK _ ?_;clear hK K)
        refine obls_is ?_ ?_
        ·unfold doesAt
         go_simp
         refine(HendW.out W' hG).mono ?_
         rintro e w1⟨rfl,hb1⟩
         refine⟨?_,hb1⟩
         rfl
        intro K hK
        go_simp
        refine hK _ ?_
        clear hK K
        iterate 12 (refine obls_is ?_ ?_;unfold doesAt;go_simp;(try go_bits);refine⟨brefl _,?_⟩;rfl;intro K hK;go_simp;refine hK _ ?_;clear hK K)
        refine obls_nil (λ_=>?_)
        have b0':=(hc Bx 0 zb).trans b0
        have b1':=(hc Bx 1 zb).trans b1
        have q0':=(hc NQ 0 zq).trans q0
        have c0':=(hc w.heap.size 0 z0).trans c0
        have c1':=(hc (w.heap.size+1+1) 0 hsz).trans c1
        have n1':=(hc (w.heap.size+1) m z1).trans hnum
        have n2':=(hc (w.heap.size+1) (m+wd) z1).trans hnum2
        have f1':=(hf (w.heap.size+1) m z1).trans hfz
        have zW:=hG.size
        have zb':Bx<W'.heap.size:=by omega
        have zq':NQ<W'.heap.size:=by omega
        have z0':w.heap.size<W'.heap.size:=by omega
        have z1':w.heap.size+1<W'.heap.size:=by omega
        have z3':w.heap.size+1+1<W'.heap.size:=by omega
        have HG:=Lib.hid hG
        clear hc hf hG b0 b1 q0 c0 c1 hnum hnum2 hfz e0 e1 t1 t2 t3 zW
        gi_wp2_with fail
        refine dagIn 12 (lets_round l 7 _) (by kernel_rfl) (by kernel_rfl) (.is ?_::.is ?_::.is ?_::.is ?_::.is ?_::.is ?_::.is ?_::.is ?_::.is ?_::.is ?_::.is ?_::.is ?_::[]) rfl ?st62 ?ob62
        case st62=>simp[Spec.ok]
        case ob62=>
         intro env2 W1 hG1
         obtain⟨hc,hf⟩:=bcell hG1
         iterate 7 (refine obls_is ?_ ?_;unfold doesAt;go_simp;(try go_bits);refine⟨brefl _,?_⟩;rfl;intro K hK;go_simp;refine hK _ ?_;clear hK K)
         refine obls_is ?_ ?_
         ·unfold doesAt
          go_simp
          refine(HendW.out W1 (Below.later HG.out hG1)).mono ?_
          rintro e w1⟨rfl,hb1⟩
          refine⟨?_,hb1⟩
          rfl
         intro K hK
         go_simp
         refine hK _ ?_
         clear hK K
         iterate 4 (refine obls_is ?_ ?_;unfold doesAt;go_simp;(try go_bits);refine⟨brefl _,?_⟩;rfl;intro K hK;go_simp;refine hK _ ?_;clear hK K)
         refine obls_last (λ_=>?_)
         have hGG:Gr W W1:=Below.later HG.out hG1
         have hN4:=(HN.out.later hGG).set m (M2 m+M2 (m+wd))
         unfold doesAt
         go_simp
         exact⟨(KeepsFrom.later hGG).trans (KeepsFrom.set _ _ _),(KpT.of_below hGG (by have:=HW3.out;rw[D3.out]at this;omega) (by have:=HW3.out;rw[D3.out]at this;omega) (by omega) (λb o h=>by cases h;omega)).trans (KpT.set _ (p:=⟨w.heap.size+1,m,none⟩) (by show w.heap.size+1≠W2.heap.size;have:=HN2.out.b2.lt;omega) (by show w.heap.size+1≠W2.heap.size+1;have:=HN2.out.b2.lt;omega) (λh=>by have h':w.heap.size+1=T:=h;omega) (λo h=>by cases h;exfalso;have hh:w.heap.size+1<w.heap.size:=hkne;omega) _),by rw[Hsn.out];exact hN4,
          (HBi.out.later hGG).other (by show w.heap.size+1≠NQ;exact Blk.apart HN.out.b1 HBi.out (by decide)) _,(HKD.out.later hGG).set _ _⟩
      ·rw[if_neg htie]at hsn
       obtain⟨hM1,hM1'⟩:=hM1
       obtain⟨hM2,hM2'⟩:=hM2
       obtain⟨hbd1,hbd1'⟩:=hbd1
       obtain⟨hbd2,hbd2'⟩:=hbd2
       have hbd3:Bh (m+wd)<=24000:=by omega
       have htb2:(y.p+Bh (m+wd)==Bh m)=false:=by simpa using htie
       have Hsn:=Lib.hid hsn
       have HN:=Lib.hid hN
       have Hbx:=Lib.hid hbx
       have HBi:=Lib.hid hBi
       have HKD:=Lib.hid hKD
       have HW3:=Lib.hid hWs
       have HtW:=Lib.hid htW
       clear hsn hN hbx hBi hKD hendW hwd hy hcb hybd hWs htW hst hbig1 htie hbd1' hbd2'
       unfold boxedAct
       gi_wp2_with fail
       refine dagIn 25 (lets_round l 7 _) (by kernel_rfl) (by kernel_rfl) (.is ?_::.is ?_::.is ?_::.is ?_::.is ?_::.is ?_::.is ?_::.is ?_::.is ?_::.is ?_::.is ?_::.is ?_::.is ?_::.is ?_::.is ?_::.is ?_::.is ?_::.is ?_::.is ?_::.is ?_::.is ?_::.is ?_::.is ?_::.is ?_::.is ?_::[]) rfl ?st72 ?ob72
       case st72=>simp[Spec.ok]
       case ob72=>
        intro env W' hG
        obtain⟨hc,hf⟩:=bcell hG
        iterate 12 (refine obls_is ?_ ?_;unfold doesAt;go_simp;(try go_bits);refine⟨brefl _,?_⟩;rfl;intro K hK;go_simp;refine hK _ ?_;clear hK K)
        refine obls_is ?_ ?_
        ·unfold doesAt
         go_simp
         refine(HendW.out W' hG).mono ?_
         rintro e w1⟨rfl,hb1⟩
         refine⟨?_,hb1⟩
         rfl
        intro K hK
        go_simp
        refine hK _ ?_
        clear hK K
        iterate 12 (refine obls_is ?_ ?_;unfold doesAt;go_simp;(try go_bits);refine⟨brefl _,?_⟩;rfl;intro K hK;go_simp;refine hK _ ?_;clear hK K)
        refine obls_nil (λ_=>?_)
        clear hc hf
        gi_wp2
        exact⟨KeepsFrom.later hG,KpT.of_below hG (by have:=HW3.out;rw[D3.out]at this;omega) (by have:=HW3.out;rw[D3.out]at this;omega) (by omega) (λb o h=>by cases h;omega),by rw[Hsn.out];exact HN.out.later hG,HBi.out.later hG,HKD.out.later hG⟩
     case done2=>
      intro D W5 hD hI5 hd
      obtain⟨hN5,_,hKD5⟩:=hI5
      have hval:(kiTo L (Fst fs L) ks m ks.length).map Subtype.val=(List.range ks.length).filter (canI L (Fst fs L) ks m):=kiTo_val _ _ _ _ _
      rw[hval,<-HA2.out]at hN5
      have hmk:Marks w.heap.size W5 (mark D::ds):=(HM2.out.later Hb3.out).cons hD (by rw[D3.out];omega) hd (λk c _ hk=>hKD5 k c hk)
      have HN5:=Lib.hid hN5
      have Hmk:=Lib.hid hmk
      clear hN5 hKD5 hd hmk hval
      go_wp2
      refine hK _ _ (n-1) (by omega) ⟨i+1,by omega,?_,Hmk.out,HN5.out⟩
      repeat (first|exact fits_nil|refine fits_none ?_|refine fits_some ?_)
     case stop2=>exactλ_ _ _ _ _ _ h _=>h.elim
  ·obtain rfl:L=i:=by omega
   obtain⟨c0,c1,hsz⟩:=hN.cells
   have z0:w.heap.size<W.heap.size:=by omega
   have z1:w.heap.size+1<W.heap.size:=by omega
   have n0:=hN.num (j:=0) (by omega)
   have HM:=Lib.hid hm
   have HN:=Lib.hid hN
   clear hm hN hK
   go_wp2_with fail
   refine postM_ret (B:=w.heap.size) (v:=.int .i64 (manyAt L (Fst fs L) ks Bh L 0)) HM.out (λW'=>results_tmp (t:=2) rfl _ _ _) (λW' hK=>?_)
   exact⟨rfl,(HN.out.kept hK (Nat.le_refl _)).bel⟩
 case st=>simp[Spec.ok]
end Go.Proofs.YtednconodjeniaaGreat.C
