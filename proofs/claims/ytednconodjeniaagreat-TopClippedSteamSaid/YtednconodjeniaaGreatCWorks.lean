/- Works: the examples of the chapter hold. -/
import Derived.Test.YtednconodjeniaaGreatCParted
import Derived.Test.YtednconodjeniaaGreatCSheetsEq
import Derived.Test.YtednconodjeniaaGreatCPath
import Derived.Test.YtednconodjeniaaGreatCCheckPrices
import Derived.KernelRfl
import Derived.Test.YtednconodjeniaaGreatCPricesOk
import Derived.Test.YtednconodjeniaaGreatCRefPrices
namespace Go.Proofs.YtednconodjeniaaGreat.C
open Go.RowKit
def fsT:List Int:=[3,8]
def ksT:List Kd:=[⟨4,10,0⟩,⟨2,3,0⟩,⟨3,4,1⟩]
def ahT:Nat->Int:=aheadAt 10 (Fst fsT 10) ksT 10
def beT:Nat->Int:=behindAt 10 (Fst fsT 10) ksT 10
theorem ex_ok:rkE ((10:Nat):Int) fsT ksT=0:=by kernel_rfl
theorem ex_c1:cutsP 10 (Fst fsT 10) ksT [⟨0,1⟩,⟨2,2⟩,⟨5,1⟩,⟨7,2⟩]=(14,0):=by kernel_rfl
theorem ex_c2:cutsP 10 (Fst fsT 10) ksT [⟨0,0⟩]=(0,18):=by kernel_rfl
theorem ex_c3:cutsP 10 (Fst fsT 10) ksT [⟨4,2⟩,⟨5,1⟩]=(0,16):=by kernel_rfl
theorem ex_c4:cutsP 10 (Fst fsT 10) ksT [⟨11,0⟩]=(0,3):=by kernel_rfl
theorem ex_w:ahT 10=14:=by kernel_rfl
theorem ex_f:firstAt 10 (Fst fsT 10) ksT beT 10 0=[⟨0,1⟩,⟨2,2⟩,⟨5,1⟩,⟨7,2⟩]:=by kernel_rfl
theorem ex_n:manyAt 10 (Fst fsT 10) ksT beT 10 0=3:=by kernel_rfl
theorem ex_p0:partedP 10 (Fst fsT 10) ksT ahT beT 0=(2,0):=by kernel_rfl
theorem ex_p5:partedP 10 (Fst fsT 10) ksT ahT beT 5=(1,0):=by kernel_rfl
theorem ex_p6:partedP 10 (Fst fsT 10) ksT ahT beT 6=(0,0):=by kernel_rfl
theorem ex_p11:partedP 10 (Fst fsT 10) ksT ahT beT 11=(0,2):=by kernel_rfl
theorem ex_q1:pricesP 10 (Fst fsT 10) ksT [0,3,1,0,3,1,2,4,0,0]=(14,0):=by kernel_rfl
theorem ex_q2:pricesP 10 (Fst fsT 10) ksT [1,1,1,1,1,1,1,1,1,1]=(0,14):=by kernel_rfl
theorem ex_q3:pricesP 10 (Fst fsT 10) ksT [0,0]=(0,15):=by kernel_rfl
theorem ex_q4:pricesP 10 (Fst fsT 10) ksT (pricesAt ahT 10)=(14,0):=by kernel_rfl
theorem ex_k0:costP 10 fsT ksT 0=(6,0):=by kernel_rfl
theorem ex_k1:costP 10 fsT ksT 1=(4,0):=by kernel_rfl
theorem ex_k2:costP 10 fsT ksT 2=(0,2):=by kernel_rfl
theorem ex_c5:cutsP 10 (Fst fsT 10) ksT [⟨8,2⟩]=(0,18):=by kernel_rfl
theorem ex_c6:cutsP 10 (Fst fsT 10) ksT []=(0,0):=by kernel_rfl
theorem ex_q5:pricesP 10 (Fst fsT 10) ksT [3,3,3,3,3,3,3,3,3,3]=(30,0):=by kernel_rfl
theorem ex_r:ribE ((10:Nat):Int) fsT=0:=by kernel_rfl
theorem ex_k:kndE ksT=0:=by kernel_rfl
theorem ex_r3:ribE 3 [2,1]=3:=by kernel_rfl
end Go.Proofs.YtednconodjeniaaGreat.C
namespace Go.Proofs.YtednconodjeniaaGreat.C
open Go.RowKit Go.Shelf
structure WK(w W:World)(B0:Nat)(FA KA:Option Addr):Prop where
 bel:Below w.heap.size w W
 b0:Blk W B0 24 #[.int .i64 10,.slice FA 2 2]
 fsl:Sl 1 encI W W.heap.size FA 2 2 fsT
 ksl:Sl 3 encK W W.heap.size KA 3 3 ksT
theorem WK.later{w W W':World}{B0:Nat}{FA KA:Option Addr}(h:WK w W B0 FA KA)(hb:Below W.heap.size W W'):WK w W' B0 FA KA:=⟨Below.later h.bel hb,h.b0.later hb,h.fsl.later hb,h.ksl.later hb⟩
section
variable{w W:World}{B0:Nat}{FA KA:Option Addr}
theorem t_cuts(h:WK w W B0 FA KA){CA:Option Addr}{cn cc:Nat}{cuts:List Sh}{a b:Int}(hC:Sl 2 encS W W.heap.size CA cn cc cuts)(he:cutsP 10 (Fst fsT 10) ksT cuts=(a,b)):
 Calls Tryz.prog 68 #[.agg #[.int .i64 10,.slice FA 2 2],.slice KA 3 3,.slice CA cn cc] W λe w'=>e=.returned (.tuple #[.int .i64 a,.int .i64 b])/\Below W.heap.size W w':=by
 have:=CheckCuts_ok 10 FA 2 2 fsT KA 3 ksT CA cn cc cuts W h.fsl h.ksl hC ex_ok
 rw[he]at this
 exact this
theorem t_worth(h:WK w W B0 FA KA):Calls Tryz.prog 8 #[.agg #[.int .i64 10,.slice FA 2 2],.slice KA 3 3] W λe w'=>e=.returned (.tuple #[.int .i64 14,.int .i64 0])/\Below W.heap.size W w':=by
 have:=Worth_ok 10 FA 2 2 fsT KA 3 ksT W h.fsl h.ksl ex_ok
 rw[show aheadAt 10 (Fst fsT 10) ksT 10 10=14 from ex_w]at this
 exact this
theorem t_count(h:WK w W B0 FA KA):Calls Tryz.prog 70 #[.agg #[.int .i64 10,.slice FA 2 2],.slice KA 3 3] W λe w'=>e=.returned (.tuple #[.int .i64 3,.int .i64 0])/\Below W.heap.size W w':=by
 have:=Count_ok 10 FA 2 2 fsT KA 3 ksT W h.fsl h.ksl ex_ok
 rw[show manyAt 10 (Fst fsT 10) ksT (behindAt 10 (Fst fsT 10) ksT 10) 10 0=3 from ex_n]at this
 exact this
theorem t_first(h:WK w W B0 FA KA):Calls Tryz.prog 9 #[.agg #[.int .i64 10,.slice FA 2 2],.slice KA 3 3] W λe w'=>∃G,e=.returned (.tuple #[.slice (some ⟨G,0,none⟩) 4 4,.int .i64 0])/\Below W.heap.size W w'/\Sl 2 encS w' w'.heap.size (some ⟨G,0,none⟩) 4 4 [⟨0,1⟩,⟨2,2⟩,⟨5,1⟩,⟨7,2⟩]:=by
 have:=Cuts_ok 10 FA 2 2 fsT KA 3 ksT W h.fsl h.ksl ex_ok
 rw[show firstAt 10 (Fst fsT 10) ksT (behindAt 10 (Fst fsT 10) ksT 10) 10 0=[⟨0,1⟩,⟨2,2⟩,⟨5,1⟩,⟨7,2⟩]from ex_f]at this
 exact this
theorem t_parted(h:WK w W B0 FA KA){p a b:Int}(he:partedP 10 (Fst fsT 10) ksT ahT beT p=(a,b)):Calls Tryz.prog 71 #[.agg #[.int .i64 10,.slice FA 2 2],.slice KA 3 3,.int .i64 p] W λe w'=>e=.returned (.tuple #[.int .i64 a,.int .i64 b])/\Below W.heap.size W w':=by
 have:=Parted_ok 10 FA 2 2 fsT KA 3 ksT p W h.fsl h.ksl ex_ok
 rw[show partedP 10 (Fst fsT 10) ksT (aheadAt 10 (Fst fsT 10) ksT 10) (behindAt 10 (Fst fsT 10) ksT 10) p=(a,b)from he]at this
 exact this
theorem t_prices(h:WK w W B0 FA KA){CA:Option Addr}{cn cc:Nat}{ps:List Int}{a b:Int}(hC:Sl 1 encI W W.heap.size CA cn cc ps)(he:pricesP 10 (Fst fsT 10) ksT ps=(a,b)):
 Calls Tryz.prog 14 #[.agg #[.int .i64 10,.slice FA 2 2],.slice KA 3 3,.slice CA cn cc] W λe w'=>e=.returned (.tuple #[.int .i64 a,.int .i64 b])/\Below W.heap.size W w':=by
 have:=CheckPrices_ok 10 FA 2 2 fsT KA 3 ksT CA cn cc ps W h.fsl h.ksl hC ex_ok
 rw[he]at this
 exact this
theorem t_rprices(h:WK w W B0 FA KA){CA:Option Addr}{cn cc:Nat}{ps:List Int}{a b:Int}(hC:Sl 1 encI W W.heap.size CA cn cc ps)(he:pricesP 10 (Fst fsT 10) ksT ps=(a,b)):
 Calls Tryz.prog 75 #[.agg #[.int .i64 10,.slice FA 2 2],.slice KA 3 3,.slice CA cn cc] W λe w'=>e=.returned (.tuple #[.int .i64 a,.int .i64 b])/\Below W.heap.size W w':=by
 have:=refPrices_ok 10 FA 2 2 fsT KA 3 ksT CA cn cc ps W h.fsl h.ksl hC ex_ok
 rw[he]at this
 exact this
theorem t_plist(h:WK w W B0 FA KA):Calls Tryz.prog 73 #[.agg #[.int .i64 10,.slice FA 2 2],.slice KA 3 3] W λe w'=>∃G c,e=.returned (.tuple #[.slice G 10 c,.int .i64 0])/\Below W.heap.size W w'/\Sl 1 encI w' w'.heap.size G 10 c (pricesAt ahT 10):=
 Prices_ok 10 FA 2 2 fsT KA 3 ksT W h.fsl h.ksl ex_ok
theorem t_cost(h:WK w W B0 FA KA){p a b:Int}(he:costP 10 fsT ksT p=(a,b)):Calls Tryz.prog 74 #[.agg #[.int .i64 10,.slice FA 2 2],.slice KA 3 3,.int .i64 p] W λe w'=>e=.returned (.tuple #[.int .i64 a,.int .i64 b])/\Below W.heap.size W w':=by
 have:=Cost_ok 10 FA 2 2 fsT KA 3 ksT p W h.fsl h.ksl ex_ok (by omega)
 rw[he]at this
 exact this
end
theorem flatS(xs:List Sh):∀(i:Nat)(x:Sh),xs[i]? =some x->∀j,j<2->(xs.flatMap encS)[i*2+j]? =(encS x)[j]? :=by
 induction xs with
 |nil=>intro i x hx;simp at hx
 |cons y ys ih=>
  intro i x hx j hj
  cases i with
  |zero=>
   simp only[List.getElem?_cons_zero,Option.some.injEq]at hx
   subst hx
   rw[List.flatMap_cons,List.getElem?_append_left (by simp[encS];omega)]
   simp
  |succ i=>
   simp only[List.getElem?_cons_succ]at hx
   rw[List.flatMap_cons,List.getElem?_append_right (by simp[encS];omega),<-ih i x hx j hj]
   congr 1
   simp[encS]
   omega
def IsSheets(xs:List Sh)(v:Value)(W:World):Prop:=∃G n c,v=.slice G n c/\Sl 2 encS W W.heap.size G n c xs
theorem IsSheets.stab{xs:List Sh}:∀v W W',Gr W W'->IsSheets xs v W->IsSheets xs v W':=λ_ _ _ hG⟨G,n,c,h1,h2⟩=>⟨G,n,c,h1,h2.later hG⟩
theorem own_slS{W:World}{e:TypeId}{base:Nat}{v:Value}{xs:List Sh}(h:W.ownsRow base e 2 v xs.length (xs.flatMap encS)):IsSheets xs v W:=by
 rcases h.2 with⟨rfl,hn⟩|⟨g,cap,cur,rfl,_,hg,hc,hm,_,_⟩
 ·exact⟨none,0,0,rfl,by rw[hn],Nat.le_refl _,by omega,λh=>absurd h (by omega)⟩
 ·refine⟨some ⟨g,0,none⟩,xs.length,cap,rfl,rfl,hc,by simp only[maxLen]at hm;omega,λ_=>⟨g,0,rfl,(Array.getElem?_eq_some_iff.1 hg).1,λi x hx j u hu=>?_⟩⟩
  have hj:j<2:=(List.getElem?_eq_some_iff.1 hu).1
  have:=h.cells rfl (i*2+j) u (by rw[flatS xs i x hx j hj];exact hu)
  have hadd:(⟨g,0,none⟩:Addr).add (i*2+j)=⟨g,i*2+j,none⟩:=by unfold Addr.add;split<;>simp_all
  rw[hadd]at this
  simpa[Nat.add_assoc]using this
theorem sheets_is(A:Option Addr)(n c:Nat)(xs:List Int)(w:World)(hs:Sl 1 encI w w.heap.size A n c xs)(hn:n<=1000):
 Calls Tryz.prog 69 #[.slice A n c] w λe w'=>∃v,e=.returned v/\Below w.heap.size w w'/\IsSheets (pairS xs) v w':=
 (sheets_lit A n c xs w hs hn).mono λ_ _⟨v,h1,h2,h3⟩=>⟨v,h1,h2,own_slS h3⟩
theorem ints_new(w:World)(t:TypeId)(xs:List Int)(n:Nat)(hn:xs.length=n)(h:n<=1000)(cs:Array Value)(hc:cs=(xs.map (Value.int .i64)).toArray):IsInts n xs (.slice (some ⟨w.heap.size,0,none⟩) n n) (w.alloc (.cells cs t)):=by
 subst hc
 subst hn
 exact⟨some ⟨w.heap.size,0,none⟩,xs.length,rfl,(Blk.new w t _).sl h⟩
set_option maxRecDepth 100000 in
set_option maxHeartbeats 8000000 in
theorem works_any(w:World):Calls Tryz.prog 24 #[] w λe w'=>e=.returned (.bool true)/\Below w.heap.size w w':=by
 go_enter Tryz.func24,Tryz.ntmps24
 go_wp2_with fail
 refine(ten_lit w).mono ?_
 rintro e w1⟨FA,rfl,hb1,hs1⟩
 have HB1:=Lib.hid hb1
 have HS1:=Lib.hid hs1
 clear hb1 hs1
 go_wp2_with fail
 refine(three_lit w1).mono ?_
 rintro e w2⟨KA,rfl,hb2,hs2⟩
 have HB2:=Lib.hid (Below.later HB1.out hb2)
 have HS2:=Lib.hid (HS1.out.later hb2)
 have HT2:=Lib.hid hs2
 clear hb2 hs2 HB1 HS1
 go_wp2_with fail
 have HK:=Lib.hid (show WK w (w2.alloc (.cells #[.int .i64 10,.slice FA 2 2] 24)) w2.heap.size FA KA from⟨balloc HB2.out _,Blk.new _ _ _,HS2.out.later (balloc (brefl _) _),HT2.out.later (balloc (brefl _) _)⟩)
 clear HB2 HS2 HT2
 obtain⟨B0,hB0⟩:∃B0,w2.heap.size=B0:=⟨_,rfl⟩
 generalize hW0:w2.alloc (.cells #[.int .i64 10,.slice FA 2 2] 24)=W0 at*
 rw[hB0]at HK ⊢
 clear hW0 hB0
 have c0:=HK.out.b0.cell 0
 have c1:=HK.out.b0.cell 1
 have cz:=HK.out.b0.lt
 clear w2
 refine dag 10 (by kernel_rfl) (by kernel_rfl) (.is ?_::.is ?_::.like (IsInts 8 [0,1,2,2,5,1,7,2])::.like (IsSheets [⟨0,1⟩,⟨2,2⟩,⟨5,1⟩,⟨7,2⟩])::.is (.tuple #[.int .i64 14,.int .i64 0])::.is ?_::.is ?_::.is ?_::.is ?_::.is ?_::[]) rfl ?st2 ?ob2
 case st2=>repeat (first|exact stab_nil|refine stab_is ?_|refine stab_like IsInts.stab ?_|refine stab_like IsSheets.stab ?_)
 case ob2=>
 intro env2 W2 hG
 obtain⟨hc,hf⟩:=bcell hG
 have HG:=Lib.hid hG
 clear hG
 iterate 2 (refine obls_is ?_ ?_;unfold doesAt;go_simp;(try go_bits);(first|(refine⟨brefl _,?_⟩;rfl)|rfl);intro K hK;go_simp;refine hK _ ?_;clear hK K)
 refine obls_like (λ_=>?_) ?_
 ·unfold doesAt
  go_simp
  exact⟨balloc (brefl _) _,ints_new _ _ [0,1,2,2,5,1,7,2] 8 rfl (by omega) _ rfl⟩
 intro K hK
 go_simp
 refine hK _ ?_
 clear hK K
 refine obls_like (λhl=>?_) ?_
 ·obtain⟨G,c,hE,hsl⟩:IsInts 8 [0,1,2,2,5,1,7,2] (env2 2) W2:=hl ⟨2,.data⟩ (by simp) rfl
  have Hsl:=Lib.hid hsl
  clear hsl
  unfold doesAt
  go_simp
  refine(sheets_is G 8 c [0,1,2,2,5,1,7,2] W2 Hsl.out (by omega)).mono ?_
  rintro e w3⟨v,rfl,hb3,hv⟩
  exact⟨v,rfl,hb3,hv⟩
 intro K hK
 go_simp
 refine hK _ ?_
 clear hK K
 refine obls_isL (λhl=>?_) ?_
 ·obtain⟨G,n,c,hE,hsl⟩:IsSheets [⟨0,1⟩,⟨2,2⟩,⟨5,1⟩,⟨7,2⟩] (env2 3) W2:=hl ⟨3,.data⟩ (by simp) rfl
  have Hsl:=Lib.hid hsl
  clear hsl
  unfold doesAt
  go_simp
  refine(t_cuts (HK.out.later HG.out) Hsl.out ex_c1).mono ?_
  rintro e w3⟨rfl,hb3⟩
  exact⟨rfl,hb3⟩
 intro K hK
 go_simp
 refine hK _ ?_
 clear hK K
 repeat (refine obls_is ?_ ?_;unfold doesAt;go_simp;(try go_bits);(first|(refine⟨brefl _,?_⟩;rfl)|rfl);intro K hK;go_simp;refine hK _ ?_;clear hK K)
 refine obls_nil (λ_=>?_)
 have HK2:=Lib.hid (HK.out.later HG.out)
 clear HK c0 c1 cz
 first|clear hc hf HG|clear hb2
 have HK:=HK2
 clear HK2
 have c0:=HK.out.b0.cell 0
 have c1:=HK.out.b0.cell 1
 have cz:=HK.out.b0.lt
 go_wp2_with fail
 refine dag 10 (by kernel_rfl) (by kernel_rfl) (.is ?_::.is ?_::.like (IsInts 2 [0,0])::.like (IsSheets [⟨0,0⟩])::.is (.tuple #[.int .i64 0,.int .i64 18])::.is ?_::.is ?_::.is ?_::.is ?_::.is ?_::[]) rfl ?st3 ?ob3
 case st3=>repeat (first|exact stab_nil|refine stab_is ?_|refine stab_like IsInts.stab ?_|refine stab_like IsSheets.stab ?_)
 case ob3=>
 intro env3 W3 hG
 obtain⟨hc,hf⟩:=bcell hG
 have HG:=Lib.hid hG
 clear hG
 iterate 2 (refine obls_is ?_ ?_;unfold doesAt;go_simp;(try go_bits);(first|(refine⟨brefl _,?_⟩;rfl)|rfl);intro K hK;go_simp;refine hK _ ?_;clear hK K)
 refine obls_like (λ_=>?_) ?_
 ·unfold doesAt
  go_simp
  exact⟨balloc (brefl _) _,ints_new _ _ [0,0] 2 rfl (by omega) _ rfl⟩
 intro K hK
 go_simp
 refine hK _ ?_
 clear hK K
 refine obls_like (λhl=>?_) ?_
 ·obtain⟨G,c,hE,hsl⟩:IsInts 2 [0,0] (env3 2) W3:=hl ⟨2,.data⟩ (by simp) rfl
  have Hsl:=Lib.hid hsl
  clear hsl
  unfold doesAt
  go_simp
  refine(sheets_is G 2 c [0,0] W3 Hsl.out (by omega)).mono ?_
  rintro e w3⟨v,rfl,hb3,hv⟩
  exact⟨v,rfl,hb3,hv⟩
 intro K hK
 go_simp
 refine hK _ ?_
 clear hK K
 refine obls_isL (λhl=>?_) ?_
 ·obtain⟨G,n,c,hE,hsl⟩:IsSheets [⟨0,0⟩] (env3 3) W3:=hl ⟨3,.data⟩ (by simp) rfl
  have Hsl:=Lib.hid hsl
  clear hsl
  unfold doesAt
  go_simp
  refine(t_cuts (HK.out.later HG.out) Hsl.out ex_c2).mono ?_
  rintro e w3⟨rfl,hb3⟩
  exact⟨rfl,hb3⟩
 intro K hK
 go_simp
 refine hK _ ?_
 clear hK K
 repeat (refine obls_is ?_ ?_;unfold doesAt;go_simp;(try go_bits);(first|(refine⟨brefl _,?_⟩;rfl)|rfl);intro K hK;go_simp;refine hK _ ?_;clear hK K)
 refine obls_nil (λ_=>?_)
 have HK2:=Lib.hid (HK.out.later HG.out)
 clear HK c0 c1 cz
 first|clear hc hf HG|clear hb3
 have HK:=HK2
 clear HK2
 have c0:=HK.out.b0.cell 0
 have c1:=HK.out.b0.cell 1
 have cz:=HK.out.b0.lt
 go_wp2_with fail
 refine dag 10 (by kernel_rfl) (by kernel_rfl) (.is ?_::.is ?_::.like (IsInts 4 [4,2,5,1])::.like (IsSheets [⟨4,2⟩,⟨5,1⟩])::.is (.tuple #[.int .i64 0,.int .i64 16])::.is ?_::.is ?_::.is ?_::.is ?_::.is ?_::[]) rfl ?st4 ?ob4
 case st4=>repeat (first|exact stab_nil|refine stab_is ?_|refine stab_like IsInts.stab ?_|refine stab_like IsSheets.stab ?_)
 case ob4=>
 intro env4 W4 hG
 obtain⟨hc,hf⟩:=bcell hG
 have HG:=Lib.hid hG
 clear hG
 iterate 2 (refine obls_is ?_ ?_;unfold doesAt;go_simp;(try go_bits);(first|(refine⟨brefl _,?_⟩;rfl)|rfl);intro K hK;go_simp;refine hK _ ?_;clear hK K)
 refine obls_like (λ_=>?_) ?_
 ·unfold doesAt
  go_simp
  exact⟨balloc (brefl _) _,ints_new _ _ [4,2,5,1] 4 rfl (by omega) _ rfl⟩
 intro K hK
 go_simp
 refine hK _ ?_
 clear hK K
 refine obls_like (λhl=>?_) ?_
 ·obtain⟨G,c,hE,hsl⟩:IsInts 4 [4,2,5,1] (env4 2) W4:=hl ⟨2,.data⟩ (by simp) rfl
  have Hsl:=Lib.hid hsl
  clear hsl
  unfold doesAt
  go_simp
  refine(sheets_is G 4 c [4,2,5,1] W4 Hsl.out (by omega)).mono ?_
  rintro e w3⟨v,rfl,hb3,hv⟩
  exact⟨v,rfl,hb3,hv⟩
 intro K hK
 go_simp
 refine hK _ ?_
 clear hK K
 refine obls_isL (λhl=>?_) ?_
 ·obtain⟨G,n,c,hE,hsl⟩:IsSheets [⟨4,2⟩,⟨5,1⟩] (env4 3) W4:=hl ⟨3,.data⟩ (by simp) rfl
  have Hsl:=Lib.hid hsl
  clear hsl
  unfold doesAt
  go_simp
  refine(t_cuts (HK.out.later HG.out) Hsl.out ex_c3).mono ?_
  rintro e w3⟨rfl,hb3⟩
  exact⟨rfl,hb3⟩
 intro K hK
 go_simp
 refine hK _ ?_
 clear hK K
 repeat (refine obls_is ?_ ?_;unfold doesAt;go_simp;(try go_bits);(first|(refine⟨brefl _,?_⟩;rfl)|rfl);intro K hK;go_simp;refine hK _ ?_;clear hK K)
 refine obls_nil (λ_=>?_)
 have HK2:=Lib.hid (HK.out.later HG.out)
 clear HK c0 c1 cz
 first|clear hc hf HG|clear hb4
 have HK:=HK2
 clear HK2
 have c0:=HK.out.b0.cell 0
 have c1:=HK.out.b0.cell 1
 have cz:=HK.out.b0.lt
 go_wp2_with fail
 refine dag 10 (by kernel_rfl) (by kernel_rfl) (.is ?_::.is ?_::.like (IsInts 2 [11,0])::.like (IsSheets [⟨11,0⟩])::.is (.tuple #[.int .i64 0,.int .i64 3])::.is ?_::.is ?_::.is ?_::.is ?_::.is ?_::[]) rfl ?st5 ?ob5
 case st5=>repeat (first|exact stab_nil|refine stab_is ?_|refine stab_like IsInts.stab ?_|refine stab_like IsSheets.stab ?_)
 case ob5=>
 intro env5 W5 hG
 obtain⟨hc,hf⟩:=bcell hG
 have HG:=Lib.hid hG
 clear hG
 iterate 2 (refine obls_is ?_ ?_;unfold doesAt;go_simp;(try go_bits);(first|(refine⟨brefl _,?_⟩;rfl)|rfl);intro K hK;go_simp;refine hK _ ?_;clear hK K)
 refine obls_like (λ_=>?_) ?_
 ·unfold doesAt
  go_simp
  exact⟨balloc (brefl _) _,ints_new _ _ [11,0] 2 rfl (by omega) _ rfl⟩
 intro K hK
 go_simp
 refine hK _ ?_
 clear hK K
 refine obls_like (λhl=>?_) ?_
 ·obtain⟨G,c,hE,hsl⟩:IsInts 2 [11,0] (env5 2) W5:=hl ⟨2,.data⟩ (by simp) rfl
  have Hsl:=Lib.hid hsl
  clear hsl
  unfold doesAt
  go_simp
  refine(sheets_is G 2 c [11,0] W5 Hsl.out (by omega)).mono ?_
  rintro e w3⟨v,rfl,hb3,hv⟩
  exact⟨v,rfl,hb3,hv⟩
 intro K hK
 go_simp
 refine hK _ ?_
 clear hK K
 refine obls_isL (λhl=>?_) ?_
 ·obtain⟨G,n,c,hE,hsl⟩:IsSheets [⟨11,0⟩] (env5 3) W5:=hl ⟨3,.data⟩ (by simp) rfl
  have Hsl:=Lib.hid hsl
  clear hsl
  unfold doesAt
  go_simp
  refine(t_cuts (HK.out.later HG.out) Hsl.out ex_c4).mono ?_
  rintro e w3⟨rfl,hb3⟩
  exact⟨rfl,hb3⟩
 intro K hK
 go_simp
 refine hK _ ?_
 clear hK K
 repeat (refine obls_is ?_ ?_;unfold doesAt;go_simp;(try go_bits);(first|(refine⟨brefl _,?_⟩;rfl)|rfl);intro K hK;go_simp;refine hK _ ?_;clear hK K)
 refine obls_nil (λ_=>?_)
 have HK2:=Lib.hid (HK.out.later HG.out)
 clear HK c0 c1 cz
 first|clear hc hf HG|clear hb5
 have HK:=HK2
 clear HK2
 have c0:=HK.out.b0.cell 0
 have c1:=HK.out.b0.cell 1
 have cz:=HK.out.b0.lt
 go_wp2_with fail
 refine(t_worth HK.out).mono ?_
 rintro e W6⟨rfl,hb6⟩
 have HK2:=Lib.hid (HK.out.later hb6)
 clear HK c0 c1 cz
 first|clear hc hf HG|clear hb6
 have HK:=HK2
 clear HK2
 have c0:=HK.out.b0.cell 0
 have c1:=HK.out.b0.cell 1
 have cz:=HK.out.b0.lt
 go_wp2_with fail
 refine(t_first HK.out).mono ?_
 rintro e W7⟨G1,rfl,hb7,hC⟩
 have HC:=Lib.hid hC
 clear hC
 have HK2:=Lib.hid (HK.out.later hb7)
 clear HK c0 c1 cz
 first|clear hc hf HG|clear hb7
 have HK:=HK2
 clear HK2
 have c0:=HK.out.b0.cell 0
 have c1:=HK.out.b0.cell 1
 have cz:=HK.out.b0.lt
 go_wp2_with fail
 refine(t_count HK.out).mono ?_
 rintro e W8⟨rfl,hb8⟩
 have HK2:=Lib.hid (HK.out.later hb8)
 have HC2:=Lib.hid (HC.out.later hb8)
 clear HK HC c0 c1 cz
 first|clear hc hf HG|clear hb8
 have HK:=HK2
 have HC:=HC2
 clear HK2 HC2
 have c0:=HK.out.b0.cell 0
 have c1:=HK.out.b0.cell 1
 have cz:=HK.out.b0.lt
 go_wp2_with fail
 refine(t_parted HK.out ex_p0).mono ?_
 rintro e W9⟨rfl,hb9⟩
 have HK2:=Lib.hid (HK.out.later hb9)
 have HC2:=Lib.hid (HC.out.later hb9)
 clear HK HC c0 c1 cz
 first|clear hc hf HG|clear hb9
 have HK:=HK2
 have HC:=HC2
 clear HK2 HC2
 have c0:=HK.out.b0.cell 0
 have c1:=HK.out.b0.cell 1
 have cz:=HK.out.b0.lt
 go_wp2_with fail
 refine(t_parted HK.out ex_p5).mono ?_
 rintro e W10⟨rfl,hb10⟩
 have HK2:=Lib.hid (HK.out.later hb10)
 have HC2:=Lib.hid (HC.out.later hb10)
 clear HK HC c0 c1 cz
 first|clear hc hf HG|clear hb10
 have HK:=HK2
 have HC:=HC2
 clear HK2 HC2
 have c0:=HK.out.b0.cell 0
 have c1:=HK.out.b0.cell 1
 have cz:=HK.out.b0.lt
 go_wp2_with fail
 refine(t_parted HK.out ex_p6).mono ?_
 rintro e W11⟨rfl,hb11⟩
 have HK2:=Lib.hid (HK.out.later hb11)
 have HC2:=Lib.hid (HC.out.later hb11)
 clear HK HC c0 c1 cz
 first|clear hc hf HG|clear hb11
 have HK:=HK2
 have HC:=HC2
 clear HK2 HC2
 have c0:=HK.out.b0.cell 0
 have c1:=HK.out.b0.cell 1
 have cz:=HK.out.b0.lt
 go_wp2_with fail
 refine(t_parted HK.out ex_p11).mono ?_
 rintro e W12⟨rfl,hb12⟩
 have HK2:=Lib.hid (HK.out.later hb12)
 have HC2:=Lib.hid (HC.out.later hb12)
 clear HK HC c0 c1 cz
 first|clear hc hf HG|clear hb12
 have HK:=HK2
 have HC:=HC2
 clear HK2 HC2
 have c0:=HK.out.b0.cell 0
 have c1:=HK.out.b0.cell 1
 have cz:=HK.out.b0.lt
 go_wp2_with fail
 refine dag 10 (by kernel_rfl) (by kernel_rfl) (.is ?_::.is ?_::.like (IsInts 10 [0,3,1,0,3,1,2,4,0,0])::.like (IsInts 10 [0,3,1,0,3,1,2,4,0,0])::.is (.tuple #[.int .i64 14,.int .i64 0])::.is ?_::.is ?_::.is ?_::.is ?_::.is ?_::[]) rfl ?st13 ?ob13
 case st13=>repeat (first|exact stab_nil|refine stab_is ?_|refine stab_like IsInts.stab ?_)
 case ob13=>
 intro env13 W13 hG
 obtain⟨hc,hf⟩:=bcell hG
 have HG:=Lib.hid hG
 clear hG
 iterate 2 (refine obls_is ?_ ?_;unfold doesAt;go_simp;(try go_bits);(first|(refine⟨brefl _,?_⟩;rfl)|rfl);intro K hK;go_simp;refine hK _ ?_;clear hK K)
 refine obls_like (λ_=>?_) ?_
 ·unfold doesAt
  go_simp
  exact⟨balloc (brefl _) _,ints_new _ _ [0,3,1,0,3,1,2,4,0,0] 10 rfl (by omega) _ rfl⟩
 intro K hK
 go_simp
 refine hK _ ?_
 clear hK K
 refine obls_like (λhl=>?_) ?_
 ·obtain⟨G,c,hE,hsl⟩:IsInts 10 [0,3,1,0,3,1,2,4,0,0] (env13 2) W13:=hl ⟨2,.data⟩ (by simp) rfl
  have Hsl:=Lib.hid hsl
  clear hsl
  unfold doesAt
  go_simp
  refine(longs_any G 10 c W13).mono ?_
  rintro e w3⟨rfl,rfl⟩
  exact⟨_,rfl,brefl _,G,c,rfl,Hsl.out⟩
 intro K hK
 go_simp
 refine hK _ ?_
 clear hK K
 refine obls_isL (λhl=>?_) ?_
 ·obtain⟨G,c,hE,hsl⟩:IsInts 10 [0,3,1,0,3,1,2,4,0,0] (env13 3) W13:=hl ⟨3,.data⟩ (by simp) rfl
  have Hsl:=Lib.hid hsl
  clear hsl
  unfold doesAt
  go_simp
  refine(t_prices (HK.out.later HG.out) Hsl.out ex_q1).mono ?_
  rintro e w3⟨rfl,hb3⟩
  exact⟨rfl,hb3⟩
 intro K hK
 go_simp
 refine hK _ ?_
 clear hK K
 repeat (refine obls_is ?_ ?_;unfold doesAt;go_simp;(try go_bits);(first|(refine⟨brefl _,?_⟩;rfl)|rfl);intro K hK;go_simp;refine hK _ ?_;clear hK K)
 refine obls_nil (λ_=>?_)
 have HK2:=Lib.hid (HK.out.later HG.out)
 have HC2:=Lib.hid (HC.out.later HG.out)
 clear HK HC c0 c1 cz
 first|clear hc hf HG|clear hb13
 have HK:=HK2
 have HC:=HC2
 clear HK2 HC2
 have c0:=HK.out.b0.cell 0
 have c1:=HK.out.b0.cell 1
 have cz:=HK.out.b0.lt
 go_wp2_with fail
 refine dag 10 (by kernel_rfl) (by kernel_rfl) (.is ?_::.is ?_::.like (IsInts 10 [1,1,1,1,1,1,1,1,1,1])::.like (IsInts 10 [1,1,1,1,1,1,1,1,1,1])::.is (.tuple #[.int .i64 0,.int .i64 14])::.is ?_::.is ?_::.is ?_::.is ?_::.is ?_::[]) rfl ?st14 ?ob14
 case st14=>repeat (first|exact stab_nil|refine stab_is ?_|refine stab_like IsInts.stab ?_)
 case ob14=>
 intro env14 W14 hG
 obtain⟨hc,hf⟩:=bcell hG
 have HG:=Lib.hid hG
 clear hG
 iterate 2 (refine obls_is ?_ ?_;unfold doesAt;go_simp;(try go_bits);(first|(refine⟨brefl _,?_⟩;rfl)|rfl);intro K hK;go_simp;refine hK _ ?_;clear hK K)
 refine obls_like (λ_=>?_) ?_
 ·unfold doesAt
  go_simp
  exact⟨balloc (brefl _) _,ints_new _ _ [1,1,1,1,1,1,1,1,1,1] 10 rfl (by omega) _ rfl⟩
 intro K hK
 go_simp
 refine hK _ ?_
 clear hK K
 refine obls_like (λhl=>?_) ?_
 ·obtain⟨G,c,hE,hsl⟩:IsInts 10 [1,1,1,1,1,1,1,1,1,1] (env14 2) W14:=hl ⟨2,.data⟩ (by simp) rfl
  have Hsl:=Lib.hid hsl
  clear hsl
  unfold doesAt
  go_simp
  refine(longs_any G 10 c W14).mono ?_
  rintro e w3⟨rfl,rfl⟩
  exact⟨_,rfl,brefl _,G,c,rfl,Hsl.out⟩
 intro K hK
 go_simp
 refine hK _ ?_
 clear hK K
 refine obls_isL (λhl=>?_) ?_
 ·obtain⟨G,c,hE,hsl⟩:IsInts 10 [1,1,1,1,1,1,1,1,1,1] (env14 3) W14:=hl ⟨3,.data⟩ (by simp) rfl
  have Hsl:=Lib.hid hsl
  clear hsl
  unfold doesAt
  go_simp
  refine(t_prices (HK.out.later HG.out) Hsl.out ex_q2).mono ?_
  rintro e w3⟨rfl,hb3⟩
  exact⟨rfl,hb3⟩
 intro K hK
 go_simp
 refine hK _ ?_
 clear hK K
 repeat (refine obls_is ?_ ?_;unfold doesAt;go_simp;(try go_bits);(first|(refine⟨brefl _,?_⟩;rfl)|rfl);intro K hK;go_simp;refine hK _ ?_;clear hK K)
 refine obls_nil (λ_=>?_)
 have HK2:=Lib.hid (HK.out.later HG.out)
 have HC2:=Lib.hid (HC.out.later HG.out)
 clear HK HC c0 c1 cz
 first|clear hc hf HG|clear hb14
 have HK:=HK2
 have HC:=HC2
 clear HK2 HC2
 have c0:=HK.out.b0.cell 0
 have c1:=HK.out.b0.cell 1
 have cz:=HK.out.b0.lt
 go_wp2_with fail
 refine dag 10 (by kernel_rfl) (by kernel_rfl) (.is ?_::.is ?_::.like (IsInts 2 [0,0])::.like (IsInts 2 [0,0])::.is (.tuple #[.int .i64 0,.int .i64 15])::.is ?_::.is ?_::.is ?_::.is ?_::.is ?_::[]) rfl ?st15 ?ob15
 case st15=>repeat (first|exact stab_nil|refine stab_is ?_|refine stab_like IsInts.stab ?_)
 case ob15=>
 intro env15 W15 hG
 obtain⟨hc,hf⟩:=bcell hG
 have HG:=Lib.hid hG
 clear hG
 iterate 2 (refine obls_is ?_ ?_;unfold doesAt;go_simp;(try go_bits);(first|(refine⟨brefl _,?_⟩;rfl)|rfl);intro K hK;go_simp;refine hK _ ?_;clear hK K)
 refine obls_like (λ_=>?_) ?_
 ·unfold doesAt
  go_simp
  exact⟨balloc (brefl _) _,ints_new _ _ [0,0] 2 rfl (by omega) _ rfl⟩
 intro K hK
 go_simp
 refine hK _ ?_
 clear hK K
 refine obls_like (λhl=>?_) ?_
 ·obtain⟨G,c,hE,hsl⟩:IsInts 2 [0,0] (env15 2) W15:=hl ⟨2,.data⟩ (by simp) rfl
  have Hsl:=Lib.hid hsl
  clear hsl
  unfold doesAt
  go_simp
  refine(longs_any G 2 c W15).mono ?_
  rintro e w3⟨rfl,rfl⟩
  exact⟨_,rfl,brefl _,G,c,rfl,Hsl.out⟩
 intro K hK
 go_simp
 refine hK _ ?_
 clear hK K
 refine obls_isL (λhl=>?_) ?_
 ·obtain⟨G,c,hE,hsl⟩:IsInts 2 [0,0] (env15 3) W15:=hl ⟨3,.data⟩ (by simp) rfl
  have Hsl:=Lib.hid hsl
  clear hsl
  unfold doesAt
  go_simp
  refine(t_prices (HK.out.later HG.out) Hsl.out ex_q3).mono ?_
  rintro e w3⟨rfl,hb3⟩
  exact⟨rfl,hb3⟩
 intro K hK
 go_simp
 refine hK _ ?_
 clear hK K
 repeat (refine obls_is ?_ ?_;unfold doesAt;go_simp;(try go_bits);(first|(refine⟨brefl _,?_⟩;rfl)|rfl);intro K hK;go_simp;refine hK _ ?_;clear hK K)
 refine obls_nil (λ_=>?_)
 have HK2:=Lib.hid (HK.out.later HG.out)
 have HC2:=Lib.hid (HC.out.later HG.out)
 clear HK HC c0 c1 cz
 first|clear hc hf HG|clear hb15
 have HK:=HK2
 have HC:=HC2
 clear HK2 HC2
 have c0:=HK.out.b0.cell 0
 have c1:=HK.out.b0.cell 1
 have cz:=HK.out.b0.lt
 go_wp2_with fail
 refine(t_plist HK.out).mono ?_
 rintro e W16⟨G2,cap2,rfl,hb16,hP⟩
 have HP:=Lib.hid hP
 clear hP
 have HK2:=Lib.hid (HK.out.later hb16)
 have HC2:=Lib.hid (HC.out.later hb16)
 clear HK HC c0 c1 cz
 first|clear hc hf HG|clear hb16
 have HK:=HK2
 have HC:=HC2
 clear HK2 HC2
 have c0:=HK.out.b0.cell 0
 have c1:=HK.out.b0.cell 1
 have cz:=HK.out.b0.lt
 go_wp2_with fail
 refine(t_cost HK.out ex_k0).mono ?_
 rintro e W17⟨rfl,hb17⟩
 have HK2:=Lib.hid (HK.out.later hb17)
 have HC2:=Lib.hid (HC.out.later hb17)
 have HP2:=Lib.hid (HP.out.later hb17)
 clear HK HC HP c0 c1 cz
 first|clear hc hf HG|clear hb17
 have HK:=HK2
 have HC:=HC2
 have HP:=HP2
 clear HK2 HC2 HP2
 have c0:=HK.out.b0.cell 0
 have c1:=HK.out.b0.cell 1
 have cz:=HK.out.b0.lt
 go_wp2_with fail
 refine(t_cost HK.out ex_k1).mono ?_
 rintro e W18⟨rfl,hb18⟩
 have HK2:=Lib.hid (HK.out.later hb18)
 have HC2:=Lib.hid (HC.out.later hb18)
 have HP2:=Lib.hid (HP.out.later hb18)
 clear HK HC HP c0 c1 cz
 first|clear hc hf HG|clear hb18
 have HK:=HK2
 have HC:=HC2
 have HP:=HP2
 clear HK2 HC2 HP2
 have c0:=HK.out.b0.cell 0
 have c1:=HK.out.b0.cell 1
 have cz:=HK.out.b0.lt
 go_wp2_with fail
 refine(t_cost HK.out ex_k2).mono ?_
 rintro e W19⟨rfl,hb19⟩
 have HK2:=Lib.hid (HK.out.later hb19)
 have HC2:=Lib.hid (HC.out.later hb19)
 have HP2:=Lib.hid (HP.out.later hb19)
 clear HK HC HP c0 c1 cz
 first|clear hc hf HG|clear hb19
 have HK:=HK2
 have HC:=HC2
 have HP:=HP2
 clear HK2 HC2 HP2
 have c0:=HK.out.b0.cell 0
 have c1:=HK.out.b0.cell 1
 have cz:=HK.out.b0.lt
 go_wp2_with fail
 refine(t_rprices HK.out HP.out ex_q4).mono ?_
 rintro e W20⟨rfl,hb20⟩
 have HK2:=Lib.hid (HK.out.later hb20)
 have HC2:=Lib.hid (HC.out.later hb20)
 clear HK HC c0 c1 cz
 first|clear hc hf HG|clear hb20
 have HK:=HK2
 have HC:=HC2
 clear HK2 HC2
 have c0:=HK.out.b0.cell 0
 have c1:=HK.out.b0.cell 1
 have cz:=HK.out.b0.lt
 go_wp2_with fail
 refine(sheets_is _ 8 8 [0,1,2,2,5,1,7,2] _ (Blk.sl (xs:=[0,1,2,2,5,1,7,2]) (Blk.new _ _ _) (by decide)) (by omega)).mono ?_
 rintro e W21⟨v,rfl,hb21,G3,n3,c3,rfl,hS⟩
 have HB:=Lib.hid (Below.later (balloc HK.out.bel _) hb21)
 have HC2:=Lib.hid ((HC.out.later (balloc (brefl _) _)).later hb21)
 have HS:=Lib.hid hS
 clear hS hb21 HK HC c0 c1 cz
 go_wp2_with fail
 refine(sheetsEq_any _ _ _ [⟨0,1⟩,⟨2,2⟩,⟨5,1⟩,⟨7,2⟩] _ _ _ [⟨0,1⟩,⟨2,2⟩,⟨5,1⟩,⟨7,2⟩] _ HC2.out HS.out).mono ?_
 rintro e W22⟨rfl,hb22⟩
 have HB2:=Lib.hid (Below.later HB.out hb22)
 clear hb22 HB HC2 HS
 go_wp2
 go_ret
 exact⟨rfl,HB2.out⟩
end Go.Proofs.YtednconodjeniaaGreat.C
