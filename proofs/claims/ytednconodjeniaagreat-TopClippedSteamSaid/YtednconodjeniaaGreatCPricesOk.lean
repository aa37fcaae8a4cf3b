/- clip.CheckPrices, where the ribbon and the kinds are valid: what unit prices prove, or the error. -/
import Derived.Test.YtednconodjeniaaGreatDag
import Derived.Test.YtednconodjeniaaGreatCNew
import Derived.Test.YtednconodjeniaaGreatCCheckPrices
namespace Go.Proofs.YtednconodjeniaaGreat.C
open Go.RowKit Go.Shelf
theorem longs_any(A:Option Addr)(n c:Nat)(w:World):
 Calls Tryz.prog 72 #[.slice A n c] w λe w'=>e=.returned (.slice A n c)/\w=w':=by
 go_enter Tryz.func72,Tryz.ntmps72
 go_wp2
 go_ret
 exact⟨rfl,rfl⟩
theorem ribbon_lit(L:Int)(A:Option Addr)(n c:Nat)(w:World):
 Calls Tryz.prog 124 #[.int .i64 L,.slice A n c] w λe w'=>e=.returned (.agg #[.int .i64 L,.slice A n c])/\Below w.heap.size w w':=by
 go_enter Tryz.func124,Tryz.ntmps124
 go_wp2
 exact bodyPost_ret (v:=.agg #[.int .i64 L,.slice A n c]) (by simp[results,Tryz.results124,go_sem]) rfl ⟨rfl,balloc (brefl w) _⟩
theorem kind_lit(a b c:Int)(w:World):
 Calls Tryz.prog 125 #[.int .i64 a,.int .i64 b,.int .i64 c] w λe w'=>e=.returned (.agg #[.int .i64 a,.int .i64 b,.int .i64 c])/\Below w.heap.size w w':=by
 go_enter Tryz.func125,Tryz.ntmps125
 go_wp2
 exact bodyPost_ret (v:=.agg #[.int .i64 a,.int .i64 b,.int .i64 c]) (by simp[results,Tryz.results125,go_sem]) rfl ⟨rfl,balloc (brefl w) _⟩
theorem Blk.sl{W:World}{b:Nat}{t:TypeId}{xs:List Int}(h:Blk W b t ((xs.map (Value.int .i64)).toArray))(hl:xs.length<=1000):Sl 1 encI W W.heap.size (some ⟨b,0,none⟩) xs.length xs.length xs:=
 ⟨rfl,Nat.le_refl _,by omega,λ_=>⟨b,0,rfl,h.lt,λi x hx j u hu=>by
   have hj:j<1:=(List.getElem?_eq_some_iff.1 hu).1
   obtain rfl:j=0:=by omega
   simp only[encI,List.getElem?_cons_zero,Option.some.injEq]at hu
   subst hu
   rw[h.cell]
   simp[hx]⟩⟩
theorem flatK(xs:List Kd):∀(i:Nat)(x:Kd),xs[i]? =some x->∀j,j<3->(xs.flatMap encK)[i*3+j]? =(encK x)[j]? :=by
 induction xs with
 |nil=>intro i x hx;simp at hx
 |cons y ys ih=>
  intro i x hx j hj
  cases i with
  |zero=>
   simp only[List.getElem?_cons_zero,Option.some.injEq]at hx
   subst hx
   rw[List.flatMap_cons,List.getElem?_append_left (by simp[encK];omega)]
   simp
  |succ i=>
   simp only[List.getElem?_cons_succ]at hx
   rw[List.flatMap_cons,List.getElem?_append_right (by simp[encK];omega),<-ih i x hx j hj]
   congr 1
   simp[encK]
   omega
theorem Blk.slK{W:World}{b:Nat}{t:TypeId}{xs:List Kd}(h:Blk W b t ((xs.flatMap encK).toArray))(hl:xs.length<=1000):Sl 3 encK W W.heap.size (some ⟨b,0,none⟩) xs.length xs.length xs:=
 ⟨rfl,Nat.le_refl _,by omega,λ_=>⟨b,0,rfl,h.lt,λi x hx j u hu=>by
   have hj:j<3:=(List.getElem?_eq_some_iff.1 hu).1
   rw[h.cell]
   simp only[List.getElem?_toArray,Nat.zero_add]
   rw[flatK xs i x hx j hj]
   exact hu⟩⟩
theorem _root_.Go.Proofs.YtednconodjeniaaGreat.Sl.setOther{α:Type}{k:Nat}{enc:α->List Value}{w:World}{B:Nat}{A:Option Addr}{n c:Nat}{xs:List α}(h:Sl k enc w B A n c xs)(b o:Nat)(u:Value)(hA:∀b' o',A=some ⟨b',o',none⟩->b'≠b):Sl k enc (w.setCell ⟨b,o,none⟩ u) B A n c xs:=
 ⟨h.len,h.cap,h.big,λhn=>by
   obtain⟨b',o',hA',hB,hc⟩:=h.at_ hn
   exact⟨b',o',hA',hB,λi x hx j v hv=>(World.cell?_setCell_other w ⟨b,o,none⟩ ⟨b',o'+i*k+j,none⟩ u (λe=>hA b' o' hA' (by simpa using(congrArg Addr.block e).symm))).trans (hc i x hx j v hv)⟩⟩
theorem ten_lit(w:World):
 Calls Tryz.prog 66 #[] w λe w'=>∃A,e=.returned (.agg #[.int .i64 (10:Nat),.slice A 2 2])/\Below w.heap.size w w'/\Sl 1 encI w' w'.heap.size A 2 2 [3,8]:=by
 go_enter Tryz.func66,Tryz.ntmps66
 go_wp2_with fail
 refine(ribbon_lit _ _ _ _ _).mono ?_
 rintro e w1⟨rfl,hb1⟩
 have hB:=Below.later (balloc (balloc (brefl w) _) _) hb1
 have hsl:=(Blk.sl (xs:=[3,8]) (t:=3) (Blk.new (w.alloc (.cells #[.int .i64 0,.slice none 0 0] 24)) 3 _) (by simp)).later hb1
 have HB:=Lib.hid hB
 have HS:=Lib.hid hsl
 have hc:∀b o,b<w.heap.size+1->w1.cell? ⟨b,o,none⟩=((w.alloc (.cells #[.int .i64 0,.slice none 0 0] 24)).alloc (.cells #[.int .i64 3,.int .i64 8] 3)).cell? ⟨b,o,none⟩:=λb o h=>hb1.cell (p:=⟨b,o,none⟩) (by simp;omega)
 have hf:∀b o,b<w.heap.size+1->w1.frozen? ⟨b,o,none⟩=((w.alloc (.cells #[.int .i64 0,.slice none 0 0] 24)).alloc (.cells #[.int .i64 3,.int .i64 8] 3)).frozen? ⟨b,o,none⟩:=λb o h=>hb1.frozen (p:=⟨b,o,none⟩) (by simp;omega)
 have hz:w.heap.size+1<w1.heap.size:=by have:=hb1.size;simp at this;omega
 clear hb1 hB hsl
 go_wp2
 refine bodyPost_ret (v:=.agg #[.int .i64 (10:Nat),.slice (some ⟨w.heap.size+1,0,none⟩) 2 2]) (by simp[results,Tryz.results66,go_sem,hc]) rfl ⟨_,rfl,bset (bset HB.out (Nat.le_refl _) _) (Nat.le_refl _) _,?_⟩
 have h2:=(HS.out.setOther w.heap.size 0 (.int .i64 10) (by simp)).setOther w.heap.size 1 (.slice (some ⟨w.heap.size+1,0,none⟩) 2 2) (by simp)
 simpa using h2
theorem three_lit(w:World):
 Calls Tryz.prog 67 #[] w λe w'=>∃A,e=.returned (.slice A 3 3)/\Below w.heap.size w w'/\Sl 3 encK w' w'.heap.size A 3 3 [⟨4,10,0⟩,⟨2,3,0⟩,⟨3,4,1⟩]:=by
 go_enter Tryz.func67,Tryz.ntmps67
 go_wp2_with fail
 refine(kind_lit _ _ _ _).mono ?_
 rintro e w1⟨rfl,hb1⟩
 have HB1:=Lib.hid hb1
 clear hb1
 go_wp2_with fail
 refine(kind_lit _ _ _ _).mono ?_
 rintro e w2⟨rfl,hb2⟩
 have HB2:=Lib.hid (Below.later HB1.out hb2)
 clear hb2
 go_wp2_with fail
 refine(kind_lit _ _ _ _).mono ?_
 rintro e w3⟨rfl,hb3⟩
 have HB3:=Lib.hid (Below.later HB2.out hb3)
 clear hb3
 go_wp2_with fail
 go_ret
 refine⟨_,rfl,balloc HB3.out _,?_⟩
 exact Blk.slK (xs:=[⟨4,10,0⟩,⟨2,3,0⟩,⟨3,4,1⟩]) (Blk.new _ _ _) (by simp)
end Go.Proofs.YtednconodjeniaaGreat.C
namespace Go.Proofs.YtednconodjeniaaGreat.C
open Go.RowKit Go.Shelf
attribute [local go_sem] Oper.semAt_some
def sumsTo(ps:List Int)(i:Nat):List Int:=(List.range (i+1)).map (psum ps)
theorem sumsTo_succ(ps:List Int)(i:Nat):sumsTo ps (i+1)=sumsTo ps i++[psum ps (i+1)]:=by simp[sumsTo,List.range_succ]
theorem sumsTo_get{ps:List Int}{i j:Nat}(h:j<=i):(sumsTo ps i)[j]? =some (psum ps j):=by simp[sumsTo,show j<i+1 from by omega]
theorem sumsTo_len(ps:List Int)(i:Nat):(sumsTo ps i).length=i+1:=by simp[sumsTo]
theorem _root_.Go.Proofs.YtednconodjeniaaGreat.Sl.kept{α:Type}{k:Nat}{enc:α->List Value}{W W':World}{B:Nat}{A:Option Addr}{n c:Nat}{xs:List α}(h:Sl k enc W W.heap.size A n c xs)(hk:Kept B W W'):Sl k enc W' W'.heap.size A n c xs:=
 ⟨h.len,h.cap,h.big,λhn=>by
   obtain⟨b,o,hA,hB,hc⟩:=h.at_ hn
   exact⟨b,o,hA,by have:=hk.size;omega,λi x hx j u hu=>hk.cell (hc i x hx j u hu)⟩⟩
structure PS(w1 W:World)(T D G i:Nat)(ps:List Int):Prop where
 bel:Below w1.heap.size w1 W
 bt:Blk W D 72 #[.pointer (some ⟨T,0,none⟩)]
 bg:∃A c,Blk W G 43 #[.slice A (i+1) c]/\Sl 1 encI W W.heap.size A (i+1) c (sumsTo ps i)
section
variable{w1 W W':World}{T D G i:Nat}{ps:List Int}
theorem PS.later(h:PS w1 W T D G i ps)(hb:Below W.heap.size W W'):PS w1 W' T D G i ps:=by
 obtain⟨A,c,h1,h2⟩:=h.bg
 exact⟨Below.later h.bel hb,h.bt.later hb,A,c,h1.later hb,h2.later hb⟩
theorem PS.kept{B:Nat}(h:PS w1 W T D G i ps)(hk:Kept B W W')(hB:w1.heap.size<=B):PS w1 W' T D G i ps:=by
 obtain⟨A,c,h1,h2⟩:=h.bg
 exact⟨h.bel.trans ⟨hk.os,hk.tape,hk.output,hk.size,λi hi=>hk.low i (by omega) (by have:=h.bel.size;omega)⟩,h.bt.kept hk,A,c,h1.kept hk,h2.kept hk⟩
theorem PS.lts(h:PS w1 W T D G i ps):D<W.heap.size/\G<W.heap.size:=by
 obtain⟨A,c,h1,h2⟩:=h.bg
 exact⟨h.bt.lt,h1.lt⟩
end
def OneI(x:Int)(v:Value)(W:World):Prop:=∃g,v=.slice (some ⟨g,0,none⟩) 1 1/\g<W.heap.size/\W.cell? ⟨g,0,none⟩=some (.int .i64 x)
theorem OneI.stab{x:Int}:∀v W W',Gr W W'->OneI x v W->OneI x v W':=λ_ _ _ hG⟨g,h1,h2,h3⟩=>
 ⟨g,h1,Nat.lt_of_lt_of_le h2 hG.size,(hG.cell (p:=⟨g,0,none⟩) h2).trans h3⟩
theorem info_long64:(Tryz.prog.info? 2).map (λi=>(i.zero,i.size,i.bytes))=some (some (.int .i64 0),1,8):=by kernel_rfl
def NewInts(B n:Nat)(xs:List Int)(v:Value)(W:World):Prop:=∃g c,v=.slice (some ⟨g,0,none⟩) n c/\B<=g/\Sl 1 encI W W.heap.size (some ⟨g,0,none⟩) n c xs
theorem NewInts.stab{B n:Nat}{xs:List Int}:∀v W W',Gr W W'->NewInts B n xs v W->NewInts B n xs v W':=λ_ _ _ hG⟨g,c,h1,h2,h3⟩=>⟨g,c,h1,h2,h3.later hG⟩
theorem append_new(W:World)(b o n g:Nat)(xs:List Int)(x:Int)(ty:TypeId)(hl:xs.length=n)(hn:n<=1000)(hc:∀i y,xs[i]? =some y->W.cell? ⟨b,o+i,none⟩=some (.int .i64 y)) (hg:W.cell? ⟨g,0,none⟩=some (.int .i64 x)):
 ∃v' w',(Builtin.append_ #[43,43] ty #[.slice (some ⟨b,o,none⟩) n n,.slice (some ⟨g,0,none⟩) 1 1]).run Tryz.prog W=.ok v' w'/\Gr W w'/\NewInts W.heap.size (n+1) (xs++[x]) v' w':=by
 obtain⟨i0,hi,hz0,hz1,hz2⟩:=info_parts info_long64
 obtain⟨v',w',hr,hown,hgr⟩:=run_append_arg_grows (P:=Tryz.prog) W 43 ty 2 i0 _ 1 8 und_longs hi hz0 hz1 hz2 rfl (by omega) ⟨b,o,none⟩ n n (xs.map (.int .i64)) (by simp[hl]) (ints_add hc)
  ⟨g,0,none⟩ 1 1 [.int .i64 x] rfl (λj u hu=>by
    have hj:j<1:=(List.getElem?_eq_some_iff.1 hu).1
    obtain rfl:j=0:=by omega
    simp at hu;subst hu
    simpa[Addr.add]using hg) (by omega) (by simp only[maxLen];omega) (by omega)
 refine⟨v',w',hr,⟨hgr.os,hgr.tape,hgr.output,hgr.size,λk hk=>hgr.block k hk (λe=>by cases e)⟩,?_⟩
 rw[show xs.map (Value.int .i64)++[Value.int .i64 x]=(xs++[x]).map (Value.int .i64)from by simp]at hown
 obtain⟨g',cap,rfl⟩:=own_succ hown
 have hlt:=(hown.lt g' rfl).1
 obtain⟨G,c,hE,hsl⟩:=own_sl hown
 cases hE
 exact⟨g',cap,rfl,hlt,hsl⟩
set_option maxRecDepth 100000 in
set_option maxHeartbeats 4000000 in
theorem CheckPrices_ok(L:Nat)(FA:Option Addr)(fn fc:Nat)(fs:List Int)(KA:Option Addr)(kc:Nat)(ks:List Kd)(PA:Option Addr)(pn pc:Nat)(ps:List Int)(w:World)(hfs:Sl 1 encI w w.heap.size FA fn fc fs)(hks:Sl 3 encK w w.heap.size KA ks.length kc ks)(hps:Sl 1 encI w w.heap.size PA pn pc ps)(he:rkE L fs ks=0):
 Calls Tryz.prog 14 #[.agg #[.int .i64 L,.slice FA fn fc],.slice KA ks.length kc,.slice PA pn pc] w λe w'=>e=.returned (.tuple #[.int .i64 (pricesP L (Fst fs L) ks ps).1,.int .i64 (pricesP L (Fst fs L) ks ps).2])/\Below w.heap.size w w':=by
 have ho:=Lib.hid (λW hb=>open_ok L FA fn fc fs KA kc ks W (hfs.later (w':=W) hb) (hks.later hb) he)
 have hpl:=hps.len
 have hpc:=hps.cap
 have hpb:=hps.big
 have Hps:=Lib.hid hps
 obtain⟨r,hr⟩:∃r,pricesP L (Fst fs L) ks ps=r:=⟨_,rfl⟩
 rw[hr]
 have Hr:=Lib.hid hr
 clear hfs hks hps he hr
 refine calls_of_marks Tryz.func14 rfl ?_
 simp only[Tryz.ntmps14,List.size_toArray,List.length_cons,List.length_nil,Nat.reduceAdd,Nat.reduceSub,Array.replicate_succ,Array.replicate_zero,List.push_toArray,List.append_toArray,List.nil_append,List.cons_append]
 go_wp2_with fail
 have HW0:=balloc (balloc (balloc (balloc (brefl w) (.cells #[.int .i64 L,.slice FA fn fc] 24)) (.cells #[.slice KA ks.length kc] 30)) (.cells #[.int .i64 0] 2)) (.cells #[.int .i64 0] 25)
 refine(ho.out _ HW0).mono ?_
 rintro e w1⟨T,rfl,hb1,hT⟩
 have hR:=(RC.new 2 25 24 30 w #[.int .i64 L,.slice FA fn fc] #[.slice KA ks.length kc]).later hb1
 have hB0:=((((Blk.new w 24 #[.int .i64 L,.slice FA fn fc]).alloc (.cells #[.slice KA ks.length kc] 30)).alloc (.cells #[.int .i64 0] 2)).alloc (.cells #[.int .i64 0] 25)).later hb1
 have hB1:Blk w1 (w.heap.size+1) 30 #[.slice KA ks.length kc]:=by
  have h5:=(((Blk.new (w.alloc (.cells #[.int .i64 L,.slice FA fn fc] 24)) 30 #[.slice KA ks.length kc]).alloc (.cells #[.int .i64 0] 2)).alloc (.cells #[.int .i64 0] 25)).later hb1
  rw[World.size_alloc]at h5
  exact h5
 have hP1:=Hps.out.later (Below.later HW0 hb1)
 have HR:=Lib.hid hR
 have HT:=Lib.hid hT
 have HB0:=Lib.hid hB0
 have HB1:=Lib.hid hB1
 have HP1:=Lib.hid hP1
 have hL1:=hT.l1
 have hL2:=hT.l2
 have hTl:=hT.tab.core.lt
 obtain⟨r0,r1,r2,r3,r4⟩:=hR.cells
 have q0:=hB0.cell 0
 have hkb:∀b o,KA=some ⟨b,o,none⟩->b<w1.heap.size:=λb o h=>by obtain⟨b',o',hA,hB,_⟩:=hT.tab.core.kds.at_ (by have:=hT.kok.1;omega);rw[h]at hA;cases hA;exact hB
 have Hkb:=Lib.hid hkb
 have Hk:=Lib.hid hT.kok
 have Hne:=Lib.hid hT.ne
 have hkl:=hT.kok.2.1
 clear hb1 hR hT hB0 hB1 hP1 HW0 ho Hps hkb
 by_cases h1:pn=L
 case neg=>
  have hd:((pn:Int) != (L:Int))=true:=by simp;omega
  have HE:=Lib.hid (show r=(0,15)by rw[<-Hr.out];exact pricesP_len (by omega))
  have HR2:=Lib.hid (((HR.out.setX 0).setE 15).later (balloc (brefl _) (.cells #[.pointer (some ⟨T,0,none⟩)] 72)))
  have z2:w.heap.size+1+1<w1.heap.size:=by omega
  have z0:w.heap.size<w1.heap.size:=by omega
  clear h1
  go_wp2_with fail
  refine postM_cells (B:=w.heap.size) (v:=.tuple #[.int .i64 0,.int .i64 15]) (Marks.nil _ _) (λW' hk=>?_) (λW' hk=>?_)
  ·obtain⟨r0,r1,_⟩:=(HR2.out.kept hk (Nat.le_refl _)).cells
   exact results_cells2 rfl _ W' _ _ 0 15 .i64 .i64 rfl rfl (load_long _ _ _ r0) (load_err _ _ _ r1)
  ·exact⟨by rw[HE.out],(HR2.out.kept hk (Nat.le_refl _)).bel⟩
 subst h1
 have hd:((pn:Int) != (pn:Int))=false:=by simp
 have z0:w.heap.size<w1.heap.size:=by omega
 have z1:w.heap.size+1<w1.heap.size:=by omega
 have z2:w.heap.size+1+1<w1.heap.size:=by omega
 have hGa:=balloc (brefl w1) (.cells #[.pointer (some ⟨T,0,none⟩)] 72)
 have hcs:=Lib.hid (containsL 36 #[] (enters_of Tryz.func36 (by kernel_rfl) rfl) outP PA pn pc ps _ (HP1.out.later hGa) (λx W _ hb=>outP_any x W))
 have HGa:=Lib.hid hGa
 have Hpl:=Lib.hid hpl
 clear hGa hpl
 go_wp2_with fail
 refine hcs.out.mono ?_
 rintro e w2⟨rfl,hb2⟩
 have hG2:=Below.later HGa.out hb2
 have hbt:Blk w2 w1.heap.size 72 #[.pointer (some ⟨T,0,none⟩)]:=(Blk.new w1 _ _).later hb2
 have HG2:=Lib.hid hG2
 have Hbt:=Lib.hid hbt
 obtain⟨r0',r1',r2',r3',r4'⟩:=(HR.out.later hG2).cells
 have z5:=hG2.size
 clear hb2 hG2 hcs hbt r0 r1 r2 r3
 have z2':w.heap.size+1+1<w2.heap.size:=by omega
 cases hany:ps.any outP with
 |true=>
  have HE:=Lib.hid (show r=(0,3)by
   rw[<-Hr.out]
   obtain⟨x,hx,hox⟩:=List.any_eq_true.1 hany
   exact pricesP_out Hpl.out hx hox)
  have HR2:=Lib.hid (((HR.out.later HG2.out).setX 0).setE 3)
  clear hany
  go_wp2_with fail
  refine postM_cells (B:=w.heap.size) (v:=.tuple #[.int .i64 0,.int .i64 3]) (Marks.nil _ _) (λW' hk=>?_) (λW' hk=>?_)
  ·obtain⟨r0,r1,_⟩:=(HR2.out.kept hk (Nat.le_refl _)).cells
   exact results_cells2 rfl _ W' _ _ 0 3 .i64 .i64 rfl rfl (load_long _ _ _ r0) (load_err _ _ _ r1)
  ·exact⟨by rw[HE.out],(HR2.out.kept hk (Nat.le_refl _)).bel⟩
 |false=>
  have HE:=Lib.hid (pricesP_cov (L:=pn) (F:=Fst fs pn) (ks:=ks) Hpl.out hany)
  have Hno:=Lib.hid (show∀j x,ps[j]? =some x->outP x=false fromλj x hx=>by
   cases ho:outP x with
   |false=>rfl
   |true=>rw[List.any_eq_true.2 ⟨x,List.mem_of_getElem? hx,ho⟩]at hany;cases hany)
  clear hany
  have hz7:w.heap.size<w2.heap.size:=by omega
  have hbs:Blk ((w2.alloc (.cells #[.int .i64 0] 2)).alloc (.cells #[.slice (some ⟨w2.heap.size,0,none⟩) 1 1] 43)) w2.heap.size 2 (([0].map (Value.int .i64)).toArray):=(Blk.new w2 _ _).alloc _
  have hbg:Blk ((w2.alloc (.cells #[.int .i64 0] 2)).alloc (.cells #[.slice (some ⟨w2.heap.size,0,none⟩) 1 1] 43)) (w2.heap.size+1) 43 #[.slice (some ⟨w2.heap.size,0,none⟩) 1 1]:=by
   have h5:=Blk.new (w2.alloc (.cells #[.int .i64 0] 2)) 43 #[.slice (some ⟨w2.heap.size,0,none⟩) 1 1]
   rw[World.size_alloc]at h5
   exact h5
  have hps0:PS w1 ((w2.alloc (.cells #[.int .i64 0] 2)).alloc (.cells #[.slice (some ⟨w2.heap.size,0,none⟩) 1 1] 43)) T w1.heap.size (w2.heap.size+1) 0 ps:=
   ⟨balloc (balloc HG2.out _) _,(Hbt.out.alloc _).alloc _,_,_,hbg,hbs.sl (by simp)⟩
  have Hps0:=Lib.hid hps0
  clear hbs hbg hps0
  go_wp2_with fail
  generalize (w2.alloc (.cells #[.int .i64 0] 2)).alloc (.cells #[.slice (some ⟨w2.heap.size,0,none⟩) 1 1] 43)=W3 at*
  obtain⟨D,hD⟩:∃D,w1.heap.size=D:=⟨_,rfl⟩
  obtain⟨G,hG⟩:∃G,w2.heap.size+1=G:=⟨_,rfl⟩
  have hDG:D<G:=by omega
  have hND:w.heap.size+1+1+1<D:=by omega
  have HD:=Lib.hid hD
  rw[hD,hG]at Hps0 ⊢
  clear hD hG r0' r1' r2' r3' r4' z5 z2' hz7 q0 r4 z0 z1 z2 HG2 Hbt HGa hd
  refine loop_n (λm a W=>a.defers=[]/\∃i:Nat,i+m=pn/\PS w1 W T D G i ps/\Fits (none::none::some (.slice PA pn pc)::some (.pointer (some ⟨w.heap.size,0,none⟩))::some (.pointer (some ⟨w.heap.size+1,0,none⟩))::none::some (.pointer (some ⟨w.heap.size+1+1,0,none⟩))::some (.pointer (some ⟨w.heap.size+1+1+1,0,none⟩))::some (.pointer (some ⟨D,0,none⟩))::none::some (.pointer (some ⟨G,0,none⟩))::none::none::none::none::none::none::none::none::none::none::none::none::none::none::none::none::none::none::none::none::none::none::none::none::some (.slice PA pn pc)::some (.int .i64 (pn:Nat))::some (.int .i64 (i:Nat))::none::none::none::none::none::none::none::none::none::none::none::none::none::none::none::none::none::none::none::none::none::none::none::none::none::none::none::none::none::none::none::none::none::none::none::none::none::none::none::none::none::none::none::none::none::none::none::none::none::none::none::none::[]) a.tmps.toList) pn ?_ ?_
  ·refine⟨rfl,0,by omega,Hps0.out,?_⟩
   repeat (first|exact fits_nil|refine fits_none ?_|refine fits_some ?_)
  clear Hps0
  clear W3 w2
  intro m a W hI K hK
  obtain⟨hds,i,him,hS,hfit⟩:=hI
  obtain⟨f,hf⟩:=fits_act hfit
  rw[hds]at hf
  subst hf
  clear hfit hds
  simp only[fillP,Nat.reduceAdd]
  have hP:=(HP1.out.later hS.bel)
  obtain⟨lD,lG⟩:=hS.lts
  by_cases hlt:i<pn
  ·obtain⟨b,o,x,rfl,hb,hx,g0⟩:=hP.ltI hlt
   obtain⟨SA,sc,hbg,hsl⟩:=hS.bg
   obtain⟨sb,so,hSA,hsb,hsc⟩:=hsl.at_ (by omega)
   subst hSA
   have hcap:=hsl.cap
   have hbig:=hsl.big
   have e0:=hbg.cell 0
   have ef:=hbg.frozen 0
   have e1:W.cell? ⟨sb,so+i,none⟩=some (.int .i64 (psum ps i)):=by
    have:=hsc i _ (sumsTo_get (Nat.le_refl _)) 0 _ rfl
    simpa using this
   have hbd:=psum_bd (ps:=ps) (j:=i) (by have:=Hpl.out;omega) (λt y ht hy=>Hno.out t y hy)
   have hxo:=Hno.out i x hx
   simp only[outP,Bool.or_eq_false_iff,decide_eq_false_iff_not]at hxo
   obtain⟨x1,x2⟩:=hxo
   have hqs:=psum_succ hx
   generalize hq:psum ps i=q at*
   obtain⟨b1,b2⟩:=hbd
   have hw1:IntKind.i64.wrap (q+x)=q+x:=by rw[IntKind.wrap_i64];omega
   have i1:(i:Int)<(pn:Int):=by omega
   have i2:(0:Int)<=(i:Int):=by omega
   have i3:(i:Int)<(i:Int)+1:=by omega
   have i4:(0:Int)<=(i:Int)+1:=by omega
   have i5:(i:Int)+1<=(sc:Int):=by omega
   have i6:((i:Int)+1).toNat=i+1:=by omega
   have Hsl:=Lib.hid hsl
   have Hsc:=Lib.hid hsc
   have HS:=Lib.hid hS
   have Hqs:=Lib.hid hqs
   have Hbg:=Lib.hid hbg
   have Hq:=Lib.hid hq
   clear hsl hsc hS hqs hP hx hbg hq x1 x2
   go_wp2_with fail
   refine dag 14 (by kernel_rfl) (by kernel_rfl) (.is ?_::.is ?_::.is ?_::.is ?_::.is ?_::.is ?_::.is ?_::.is ?_::.is ?_::.is ?_::.is ?_::.is ?_::.like (OneI (q+x))::.like (NewInts W.heap.size (i+1+1) (sumsTo ps (i+1)))::[]) rfl ?st1 ?ob1
   case st1=>repeat (first|exact stab_nil|refine stab_is ?_|refine stab_like OneI.stab ?_|refine stab_like NewInts.stab ?_)
   case ob1=>
    intro env W' hG
    obtain⟨hc,hf⟩:=bcell hG
    iterate 12 (refine obls_is ?_ ?_;unfold doesAt;go_simp;(try go_bits);(first|(refine⟨brefl _,?_⟩;rfl)|rfl);intro K hK;go_simp;refine hK _ ?_;clear hK K)
    refine obls_like (λ_=>?_) ?_
    ·unfold doesAt
     go_simp
     exact⟨balloc (brefl _) _,W'.heap.size,rfl,by simp,by go_simp⟩
    intro K hK
    go_simp
    refine hK _ ?_
    clear hK K
    refine obls_like (λhl=>?_) ?_
    ·obtain⟨g,hg,hg1,hg2⟩:OneI (q+x) (env 12) W':=hl ⟨12,.data⟩ (by simp) rfl
     obtain⟨v',w',hr,hgr,hints⟩:=append_new W' sb so (i+1) g (sumsTo ps i) (q+x) 43 (sumsTo_len ps i) (by omega) (λt y ht=>(hc sb (so+t) hsb).trans (by have:=Hsc.out t y ht 0 _ rfl;simpa using this)) hg2
     refine doesAt_append _ _ _ _ rfl _ _ rfl hg v' w' hr ⟨hgr,?_⟩
     obtain⟨g',c',h1,h2,h3⟩:=hints
     rw[sumsTo_succ,Hqs.out]
     exact⟨g',c',h1,Nat.le_trans hG.size h2,h3⟩
    intro K hK
    go_simp
    refine hK _ ?_
    clear hK K
    refine obls_last (λhall=>?_)
    obtain⟨g',c',hE,hgW,hsl'⟩:NewInts W.heap.size (i+1+1) (sumsTo ps (i+1)) (env 13) W':=hall 13 _ rfl
    have hG':G<W'.heap.size:=Nat.lt_of_lt_of_le lG hG.size
    have hS2:PS w1 (W'.setCell ⟨G,0,none⟩ (.slice (some ⟨g',0,none⟩) (i+1+1) c')) T D G (i+1) ps:=by
     refine⟨(Below.later HS.out.bel hG).setCell (by show w1.heap.size<=G;have:=HD.out;omega) _,(HS.out.bt.later hG).other (by show G≠D;omega) _,_,_,(Hbg.out.later hG).set 0 _,?_⟩
     have h5:=hsl'.setOther G 0 (.slice (some ⟨g',0,none⟩) (i+1+1) c') (λb' o' h=>by cases h;omega)
     simpa using h5
    have HS2:=Lib.hid hS2
    unfold doesAt
    go_simp
    generalize W'.setCell ⟨G,0,none⟩ (.slice (some ⟨g',0,none⟩) (i+1+1) c')=W4 at*
    clear hS2 hsl' hE hc hf hG hall e0 e1 ef g0 hw1
    go_wp2
    refine hK _ _ (m-1) (by omega) ⟨rfl,i+1,by omega,HS2.out,?_⟩
    repeat (first|exact fits_nil|refine fits_none ?_|refine fits_some ?_)
  ·obtain rfl:i=pn:=by omega
   have q0:=(HB0.out.later hS.bel).cell 0
   have q0z:=(HB0.out.later hS.bel).lt
   have HS:=Lib.hid hS
   clear hS hP hK
   go_wp2_with fail
   clear q0 q0z lD lG
   refine loop_n (λm a W=>∃fr:Nat,fr+m=i/\PS w1 W T D G i ps/\Marks w.heap.size W a.defers/\(∀f k,f<fr->k<ks.length->coverAt i (Fst fs i) ks (psum ps) f k=true)/\Fits (none::none::none::some (.pointer (some ⟨w.heap.size,0,none⟩))::some (.pointer (some ⟨w.heap.size+1,0,none⟩))::none::some (.pointer (some ⟨w.heap.size+1+1,0,none⟩))::some (.pointer (some ⟨w.heap.size+1+1+1,0,none⟩))::some (.pointer (some ⟨D,0,none⟩))::none::some (.pointer (some ⟨G,0,none⟩))::none::none::none::none::none::none::none::none::none::none::none::none::none::none::none::none::none::none::none::none::none::none::none::none::none::none::none::none::none::none::none::none::none::none::none::none::none::none::none::none::none::none::none::none::none::none::none::some (.int .i64 (i:Nat))::some (.int .i64 (fr:Nat))::none::none::none::none::none::none::none::none::none::none::none::none::none::none::none::none::none::none::none::none::none::none::none::none::none::none::none::none::none::none::[]) a.tmps.toList) i ?_ ?_
   ·refine⟨0,by omega,HS.out,Marks.nil _ _,λf k hf=>by omega,?_⟩
    repeat (first|exact fits_nil|refine fits_none ?_|refine fits_some ?_)
   clear HS
   clear W
   intro m1 a W hI K hK
   obtain⟨fr,hfm,hS,hm,hcv,hfit⟩:=hI
   obtain⟨f,hf⟩:=fits_act hfit
   generalize a.defers=ds at*
   subst hf
   clear hfit
   simp only[fillP,Nat.reduceAdd]
   obtain⟨lD,lG⟩:=hS.lts
   have HM:=Lib.hid hm
   have Hcv:=Lib.hid hcv
   have e0:=hS.bt.cell 0
   have hlD:=HD.out
   by_cases hlt:fr<i
   ·have i1:(fr:Int)<(i:Int):=by omega
    have hG1:=balloc (brefl W) (.cells #[.int .i64 fr] 3)
    have hE0:Blk (W.alloc (.cells #[.int .i64 fr] 3)) W.heap.size 3 #[.int .i64 fr]:=Blk.new W _ _
    have HS1:=Lib.hid (hS.later hG1)
    have HM1:=Lib.hid (HM.out.later hG1)
    have HE0:=Lib.hid hE0
    have hwW:=hS.bel.size
    clear hS hm hcv hG1 hE0
    go_wp2_with fail
    refine(sheets_any T fr _).mono ?_
    generalize W.alloc (.cells #[.int .i64 fr] 3)=W2 at*
    rintro e w3⟨rfl,hw3⟩
    have hb3:Below W2.heap.size W2 w3:=by rw[<-hw3];exact balloc (balloc (brefl _) _) _
    have d1:w3.cell? ⟨W2.heap.size,0,none⟩=some (.pointer (some ⟨T,0,none⟩)):=by rw[<-hw3];exact((Blk.new W2 _ _).alloc _).cell 0
    have d2:w3.cell? ⟨W2.heap.size+1,0,none⟩=some (.int .i64 fr):=by rw[<-hw3];have h5:=(Blk.new (W2.alloc (.cells #[.pointer (some ⟨T,0,none⟩)] 72)) 3 #[.int .i64 fr]).cell 0;rw[World.size_alloc]at h5;exact h5
    have d3:w3.heap.size=W2.heap.size+1+1:=by rw[<-hw3];simp
    have D3:=Lib.hid d3
    have Hb3:=Lib.hid hb3
    have D1:=Lib.hid d1
    have D2:=Lib.hid d2
    have hS3:=HS1.out.later Hb3.out
    have hE3:=HE0.out.later Hb3.out
    have hT3:=HT.out.later hS3.bel
    have HW2:=Lib.hid (HE0.out.lt)
    have hz3:w1.heap.size<=w3.heap.size:=hS3.bel.size
    have HS3:=Lib.hid hS3
    have HE3:=Lib.hid hE3
    have HT3:=Lib.hid hT3
    obtain⟨E,hE⟩:∃E,W.heap.size=E:=⟨_,rfl⟩
    rw[hE]at HE0 HE3 HW2 ⊢
    have hDE:D<E:=by omega
    have hGE:G<E:=by omega
    clear hw3 hb3 d1 d2 d3 e0 lD lG hE3 hT3 hS3
    go_wp2_with fail
    refine range_sheets (B1:=W2.heap.size) (B2:=W2.heap.size+1) (T:=T) (L:=i) (F:=Fst fs i) (fr:=fr) (d:=14) (w:=w3) rfl Hk.out (by omega) (Fst_bd fs (by omega)) (by omega) Hne.out (by rw[D3.out];omega) (by rw[D3.out];omega) D1.out D2.out HT3.out.tab.core
     (λ(pre:List (Ki i (Fst fs i) ks fr))W=>PS w1 W T D G i ps/\Blk W E 3 #[.int .i64 fr]/\KeepD w3 W/\∀y∈pre,coverAt i (Fst fs i) ks (psum ps) fr y.1=true)
     (λc(pre:List (Ki i (Fst fs i) ks fr))W=>c=.ret/\(∃k,k<ks.length/\coverAt i (Fst fs i) ks (psum ps) fr k=false)/\RC 2 25 w W 0 14/\KeepD w3 W)
     ?hI ?hIx
     ⟨HS3.out,HE3.out,KeepD.refl _,by simp⟩ ?assign ?body ?done ?stop
    case hI=>exactλpre W W' hK h=>⟨h.1.kept hK hz3,h.2.1.kept hK,h.2.2.1.kept hK,h.2.2.2⟩
    case hIx=>exactλc pre W W' hK h=>⟨h.1,h.2.1,h.2.2.1.kept hK (by omega),h.2.2.2.kept hK⟩
    case assign=>
     intro l x W K hK
     gi_wp2
     exact hK
    case body=>
     intro l pre x Bx W hWs hBx hbx hI hpl
     obtain⟨hS,hEb,hKD,hpre⟩:=hI
     obtain⟨k,hkc⟩:=x
     obtain⟨y,hy,hcb⟩:∃y,ks[k]? =some y/\canB i (Fst fs i) y fr=true:=by
      unfold canI at hkc
      cases hy:ks[k]? with
      |none=>rw[hy]at hkc;cases hkc
      |some y=>rw[hy]at hkc;exact⟨y,rfl,hkc⟩
     have hybd:=Hk.out.bd hy
     obtain⟨wd,hwd⟩:∃wd:Nat,y.w=wd:=⟨y.w.toNat,by omega⟩
     have hle:=(canB_iff.1 hcb).1
     rw[hwd]at hle
     have hgd:ks.getD k ⟨0,0,0⟩=y:=by simp[List.getD,hy]
     have hTW:=HT.out.later hS.bel
     have HTW:=Lib.hid hTW
     have hendW:∀W',Below W.heap.size W W'->Calls Tryz.prog 38 #[.pointer (some ⟨T,0,none⟩),.agg #[.int .i64 fr,.int .i64 k]] W' λe w'=>e=.returned (.int .i64 (fr+wd))/\Below W'.heap.size W' w':=by
      intro W' hb
      have h5:=end_tab (HTW.out.later hb).tab.core Hk.out hy (fr:Int) (by omega) (by omega)
      rw[hwd]at h5
      exact h5
     have HendW:=Lib.hid hendW
     obtain⟨kb,ko,y',hKA,hkb,hy',_,e1,_⟩:=hTW.tab.core.kds.ltK (List.getElem?_eq_some_iff.1 hy).1
     rw[hy]at hy'
     cases hy'
     have hcov:coverAt i (Fst fs i) ks (psum ps) fr k=decide (y.p<=psum ps (fr+wd)-psum ps fr):=by
      unfold coverAt;rw[hkc,hgd,hwd];rfl
     have Hcov:=Lib.hid hcov
     have hbk:=(HB1.out.later hS.bel).cell 0
     have hbkz:=(HB1.out.later hS.bel).lt
     obtain⟨SA,sc,hbg,hsl⟩:=hS.bg
     obtain⟨sb,so,hSA,hsb,hsc⟩:=hsl.at_ (by omega)
     subst hSA
     have hcap:=hsl.cap
     have hbig:=hsl.big
     have g0:=hbg.cell 0
     have gz:=hbg.lt
     have g1:W.cell? ⟨sb,so+fr,none⟩=some (.int .i64 (psum ps fr)):=by
      have:=hsc fr _ (sumsTo_get (by omega)) 0 _ rfl
      simpa using this
     have g2:W.cell? ⟨sb,so+(fr+wd),none⟩=some (.int .i64 (psum ps (fr+wd))):=by
      have:=hsc (fr+wd) _ (sumsTo_get (by omega)) 0 _ rfl
      simpa using this
     have b0:=hbx.cell 0
     have b1:=hbx.cell 1
     have bz:=hbx.lt
     have t0:=hS.bt.cell 0
     have tz:=hS.bt.lt
     have u0:=hEb.cell 0
     have uz:=hEb.lt
     have hkl2:k<ks.length:=(List.getElem?_eq_some_iff.1 hy).1
     have hbd1:=psum_bd (ps:=ps) (j:=fr) (by have:=Hpl.out;omega) (λt y ht hy=>Hno.out t y hy)
     have hmo:=psum_mono (ps:=ps) (i:=fr) (j:=fr+wd) (by omega) (by have:=Hpl.out;omega) (λt y ht hy=>Hno.out t y hy)
     obtain⟨p1,p2⟩:=hybd.2.1
     have HS:=Lib.hid hS
     have HEb:=Lib.hid hEb
     have HKD:=Lib.hid hKD
     have Hpre:=Lib.hid hpre
     have Hkb2:=Lib.hid (show∀b o,KA=some ⟨b,o,none⟩->b<W.heap.size fromλb o h=>by have:=Hkb.out b o h;have:=hS.bel.size;omega)
     have HTl:T<W.heap.size:=hTW.tab.core.lt
     subst hKA
     have j0:(0:Int)<=(fr:Int)+(wd:Int):=by omega
     have j1:(fr:Int)+(wd:Int)<(i:Int)+1:=by omega
     have j2:((fr:Int)+(wd:Int)).toNat=fr+wd:=by omega
     have j3:(fr:Int)<(i:Int)+1:=by omega
     have j4:(0:Int)<=(fr:Int):=by omega
     have j5:(k:Int)<(ks.length:Int):=by omega
     have j6:(0:Int)<=(k:Int):=by omega
     obtain⟨s1,s2⟩:=hbd1
     obtain⟨s3,s4⟩:=hmo
     generalize hq1:psum ps fr=q1 at*
     generalize hq2:psum ps (fr+wd)=q2 at*
     have Hq1:=Lib.hid hq1
     have hw1:IntKind.i64.wrap (q2-q1)=q2-q1:=by rw[IntKind.wrap_i64];omega
     have HWs:=Lib.hid hWs
     clear hS hEb hKD hpre hendW hy hcb hgd hTW hbg hsl hsc hcov hybd hwd hbx hq1 hq2 hWs hlD s1 s2 s3 s4
     cases hd:decide (q2-q1<y.p)with
     |true=>
      have Hd:=Lib.hid hd
      unfold boxedAct
      gi_wp2_with fail
      refine dagIn 18 (lets_round l 7 _) (by kernel_rfl) (by kernel_rfl) (.is ?_::.is ?_::.is ?_::.is ?_::.is ?_::.is ?_::.is ?_::.is ?_::.is ?_::.is ?_::.is ?_::.is ?_::.is ?_::.is ?_::.is ?_::.is ?_::.is ?_::.is ?_::[]) rfl ?st2 ?ob2
      case st2=>simp[Spec.ok]
      case ob2=>
       intro env W' hG
       obtain⟨hc,hf⟩:=bcell hG
       iterate 3 (refine obls_is ?_ ?_;unfold doesAt;go_simp;(try go_bits);(first|(refine⟨brefl _,?_⟩;rfl)|rfl);intro K hK;go_simp;refine hK _ ?_;clear hK K)
       refine obls_is ?_ ?_
       ·unfold doesAt
        go_simp
        refine(HendW.out W' hG).mono ?_
        rintro e w1⟨rfl,hb1⟩
        refine⟨?_,hb1⟩
        rfl
       intro K hK
       go_simp
       refine hK _ ?_
       clear hK K
       iterate 14 (refine obls_is ?_ ?_;unfold doesAt;go_simp;(try go_bits);(first|(refine⟨brefl _,?_⟩;rfl)|rfl);intro K hK;go_simp;refine hK _ ?_;clear hK K)
       refine obls_nil (λ_=>?_)
       clear hc hf
       have hRC:=HR.out.later (Below.later HS.out.bel hG)
       obtain⟨r0,r1,r2,r3,r4⟩:=hRC.cells
       have r5:w.heap.size+1+1<W'.heap.size:=by omega
       have HRC:=Lib.hid ((hRC.setX 0).setE 14)
       have HG:=Lib.hid hG
       clear hRC hG b0 b1 t0 u0 g0 g1 g2 e1 hbk
       gi_wp2
       refine⟨((KeepsFrom.later HG.out).trans (KeepsFrom.set _ _ _)).trans (KeepsFrom.set _ _ _),rfl,⟨k,hkl2,by rw[Hcov.out];simpa using Hd.out⟩,HRC.out,((HKD.out.later HG.out).set _ _).set _ _⟩
     |false=>
      have Hd:=Lib.hid hd
      unfold boxedAct
      gi_wp2_with fail
      refine dagIn 18 (lets_round l 7 _) (by kernel_rfl) (by kernel_rfl) (.is ?_::.is ?_::.is ?_::.is ?_::.is ?_::.is ?_::.is ?_::.is ?_::.is ?_::.is ?_::.is ?_::.is ?_::.is ?_::.is ?_::.is ?_::.is ?_::.is ?_::.is ?_::[]) rfl ?st3 ?ob3
      case st3=>simp[Spec.ok]
      case ob3=>
       intro env W' hG
       obtain⟨hc,hf⟩:=bcell hG
       iterate 3 (refine obls_is ?_ ?_;unfold doesAt;go_simp;(try go_bits);(first|(refine⟨brefl _,?_⟩;rfl)|rfl);intro K hK;go_simp;refine hK _ ?_;clear hK K)
       refine obls_is ?_ ?_
       ·unfold doesAt
        go_simp
        refine(HendW.out W' hG).mono ?_
        rintro e w1⟨rfl,hb1⟩
        refine⟨?_,hb1⟩
        rfl
       intro K hK
       go_simp
       refine hK _ ?_
       clear hK K
       iterate 14 (refine obls_is ?_ ?_;unfold doesAt;go_simp;(try go_bits);(first|(refine⟨brefl _,?_⟩;rfl)|rfl);intro K hK;go_simp;refine hK _ ?_;clear hK K)
       refine obls_nil (λ_=>?_)
       clear hc hf
       gi_wp2
       refine⟨KeepsFrom.later hG,KpT.of_below hG (by have:=HWs.out;rw[D3.out]at this;omega) (by have:=HWs.out;rw[D3.out]at this;omega) HTl Hkb2.out,HS.out.later hG,HEb.out.later hG,HKD.out.later hG,λz hz=>?_⟩
       rcases List.mem_append.1 hz with hz|hz
       ·exact Hpre.out z hz
       ·rw[List.mem_singleton.1 hz];rw[Hcov.out];have:=Hd.out;simp at this ⊢;omega
    case done=>
     intro D' W5 hD' hI5 hd
     obtain⟨hS5,hE5,hKD5,hno⟩:=hI5
     have hval:(kiTo i (Fst fs i) ks fr ks.length).map Subtype.val=(List.range ks.length).filter (canI i (Fst fs i) ks fr):=kiTo_val _ _ _ _ _
     have hcv2:∀f k,f<fr+1->k<ks.length->coverAt i (Fst fs i) ks (psum ps) f k=true:=by
      intro f k hf hk
      by_cases e:f=fr
      ·subst e
       cases hkc:canI i (Fst fs i) ks f k with
       |false=>unfold coverAt;rw[hkc];rfl
       |true=>
        have hm:k∈(kiTo i (Fst fs i) ks f ks.length).map Subtype.val:=by rw[hval,List.mem_filter];exact⟨List.mem_range.2 hk,hkc⟩
        obtain⟨z,hz,rfl⟩:=List.mem_map.1 hm
        exact hno z hz
      ·exact Hcv.out f k (by omega) hk
     have hmk:Marks w.heap.size W5 (mark D'::ds):=(HM1.out.later Hb3.out).cons hD' (by omega) hd (λk c _ hk=>hKD5 k c hk)
     have HS5:=Lib.hid hS5
     have Hmk:=Lib.hid hmk
     have Hcv2:=Lib.hid hcv2
     clear hS5 hE5 hKD5 hno hval hcv2 hd hmk
     go_wp2
     refine hK _ _ (m1-1) (by omega) ⟨fr+1,by omega,HS5.out,Hmk.out,Hcv2.out,?_⟩
     repeat (first|exact fits_nil|refine fits_none ?_|refine fits_some ?_)
    case stop=>
     intro D' c pre W5 hD' hpre hI5 hd
     obtain⟨rfl,⟨k,hk,hck⟩,hRC,hKD5⟩:=hI5
     have HE2:=Lib.hid (show r=(0,14)by rw[<-Hr.out,HE.out,cover_no hlt hk hck];rfl)
     have hmk:Marks w.heap.size W5 (mark D'::ds):=(HM1.out.later Hb3.out).cons hD' (by omega) hd (λk c _ hk=>hKD5 k c hk)
     have HRC:=Lib.hid hRC
     have Hmk:=Lib.hid hmk
     clear hck hRC hKD5 hmk hd hK
     go_wp2_with fail
     refine postM_cells (B:=w.heap.size) (v:=.tuple #[.int .i64 0,.int .i64 14]) Hmk.out (λW' hk=>?_) (λW' hk=>?_)
     ·obtain⟨r0,r1,_⟩:=(HRC.out.kept hk (Nat.le_refl _)).cells
      exact results_cells2 rfl _ W' _ _ 0 14 .i64 .i64 rfl rfl (load_long _ _ _ r0) (load_err _ _ _ r1)
     ·exact⟨by rw[HE2.out],(HRC.out.kept hk (Nat.le_refl _)).bel⟩
   ·obtain rfl:fr=i:=by omega
    have HE2:=Lib.hid (show r=(psum ps fr,0)by rw[<-Hr.out,HE.out,if_pos (cover_yes Hcv.out)])
    obtain⟨SA,sc,hbg,hsl⟩:=hS.bg
    obtain⟨sb,so,hSA,hsb,hsc⟩:=hsl.at_ (by omega)
    subst hSA
    have hbig:=hsl.big
    have hcap:=hsl.cap
    have e0:=hbg.cell 0
    have e1:W.cell? ⟨sb,so+fr,none⟩=some (.int .i64 (psum ps fr)):=by
     have:=hsc fr _ (sumsTo_get (Nat.le_refl _)) 0 _ rfl
     simpa using this
    have q0:=(HB0.out.later hS.bel).cell 0
    have q0z:=(HB0.out.later hS.bel).lt
    have HRC:=HR.out.later hS.bel
    obtain⟨r0,r1,r2,r3,r4⟩:=HRC.cells
    have r5:w.heap.size+1+1<W.heap.size:=by omega
    have HRe:=Lib.hid ((HRC.setX (psum ps fr)).setE 0)
    have HMe:=Lib.hid ((HM.out.setCell ⟨w.heap.size+1+1,0,none⟩ (.int .i64 (psum ps fr))).setCell ⟨w.heap.size+1+1+1,0,none⟩ (.int .i64 0))
    have i2:(0:Int)<=(fr:Int):=by omega
    have i3:(fr:Int)<(fr:Int)+1:=by omega
    generalize hq:psum ps fr=q at*
    clear hS hm hcv hK hbg hsl hsc HRC hq
    go_wp2_with fail
    refine postM_cells (B:=w.heap.size) (v:=.tuple #[.int .i64 q,.int .i64 0]) HMe.out (λW' hk=>?_) (λW' hk=>?_)
    ·obtain⟨r0,r1,_⟩:=(HRe.out.kept hk (Nat.le_refl _)).cells
     exact results_cells2 rfl _ W' _ _ q 0 .i64 .i64 rfl rfl (load_long _ _ _ r0) (load_err _ _ _ r1)
    ·exact⟨by rw[HE2.out],(HRe.out.kept hk (Nat.le_refl _)).bel⟩
end Go.Proofs.YtednconodjeniaaGreat.C
