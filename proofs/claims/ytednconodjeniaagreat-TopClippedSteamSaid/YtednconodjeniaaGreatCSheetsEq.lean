/- Whether two lists of sheets are equal. -/
import Derived.Test.YtednconodjeniaaGreatCPricesOk
import Derived.Deep.RegionHeld3
import Derived.Deep.AppendLies
import Derived.Test.YtednconodjeniaaGreatCCheckCuts
namespace Go.Proofs.YtednconodjeniaaGreat.C
open Go.RowKit Go.Shelf
def pairS:List Int->List Sh
 |a::b::l=>⟨a,b⟩::pairS l
 |_=>[]
theorem pairS_take(xs:List Int):∀k,2*k+1<xs.length->pairS (xs.take (2*(k+1)))=pairS (xs.take (2*k))++[⟨xs.getD (2*k) 0,xs.getD (2*k+1) 0⟩]:=by
 intro k
 induction k generalizing xs with
 |zero=>
  intro h
  match xs,h with
  |a::b::l,_=>simp[pairS]
 |succ k ih=>
  intro h
  match xs,h with
  |a::b::l,h=>
   have h2:=ih l (by simp at h;omega)
   have e1:(a::b::l).take (2*(k+1+1))=a::b::l.take (2*(k+1)):=by rw[show 2*(k+1+1)=2*(k+1)+1+1 from by omega];simp
   have e2:(a::b::l).take (2*(k+1))=a::b::l.take (2*k):=by rw[show 2*(k+1)=2*k+1+1 from by omega];simp
   rw[e1,e2,pairS,pairS,h2]
   simp[show 2*(k+1)=2*k+1+1 from by omega]
theorem pairS_all(xs:List Int)(k:Nat)(h1:2*k<=xs.length)(h2:xs.length<=2*k+1):pairS (xs.take (2*k))=pairS xs:=by
 induction k generalizing xs with
 |zero=>
  match xs,h2 with
  |[],_=>rfl
  |[a],_=>rfl
 |succ k ih=>
  match xs,h1,h2 with
  |a::b::l,h1,h2=>
   have e2:(a::b::l).take (2*(k+1))=a::b::l.take (2*k):=by rw[show 2*(k+1)=2*k+1+1 from by omega];simp
   rw[e2,pairS,pairS,ih l (by simp at h1;omega) (by simp at h2;omega)]
theorem pairS_len(xs:List Int)(k:Nat)(h:2*k<=xs.length):(pairS (xs.take (2*k))).length=k:=by
 induction k generalizing xs with
 |zero=>simp[pairS]
 |succ k ih=>
  match xs,h with
  |a::b::l,h=>
   have e2:(a::b::l).take (2*(k+1))=a::b::l.take (2*k):=by rw[show 2*(k+1)=2*k+1+1 from by omega];simp
   rw[e2,pairS,List.length_cons,ih l (by simp at h;omega)]
structure LS(w W:World)(A:Option Addr)(n c:Nat)(xs:List Int)(v:Value)(i:Nat)(l:List Sh):Prop where
 bel:Below w.heap.size w W
 sl:Sl 1 encI W w.heap.size A n c xs
 own:W.ownsRow w.heap.size 49 2 v i (l.flatMap encS)
set_option maxRecDepth 100000 in
set_option maxHeartbeats 2000000 in
theorem sheets_lit(A:Option Addr)(n c:Nat)(xs:List Int)(w:World)(hs:Sl 1 encI w w.heap.size A n c xs)(hn:n<=1000):
 Calls Tryz.prog 69 #[.slice A n c] w λe w'=>∃v,e=.returned v/\Below w.heap.size w w'/\w'.ownsRow w.heap.size 49 2 v (pairS xs).length ((pairS xs).flatMap encS):=by
 have hl:=hs.len
 have hcap:=hs.cap
 have hbig:=hs.big
 have Hs:=Lib.hid hs
 clear hs
 go_enter Tryz.func69,Tryz.ntmps69
 go_wp2_with fail
 refine loop_n (λm a W=>a.defers=[]/\∃(i:Nat)(v:Value),n<=2*i+2*m/\2*i<=n/\LS w W A n c xs v i (pairS (xs.take (2*i)))/\Fits (some (.slice A n c)::none::none::some (v)::some (.int .i64 ((2*i:Nat):Int))::none::none::none::none::none::none::none::none::none::none::none::none::none::none::none::none::none::none::none::none::none::[]) a.tmps.toList) n ?_ ?_
 ·refine⟨rfl,0,_,by omega,by omega,⟨brefl _,Hs.out,World.ownsRow_nil _ _ _ _⟩,?_⟩
  repeat (first|exact fits_nil|refine fits_none ?_|refine fits_some ?_)
 intro m a W hI K hK
 obtain⟨hds,i,v,him,hi2,hL,hfit⟩:=hI
 obtain⟨f,hf⟩:=fits_act hfit
 rw[hds]at hf
 subst hf
 clear hfit hds
 simp only[fillP,Nat.reduceAdd]
 by_cases hlt:2*i+1<n
 ·obtain⟨b,o,x,rfl,hb,hx,g0⟩:=hL.sl.ltI (i:=2*i) (by omega)
  obtain⟨b',o',y,hA',_,hy,g1⟩:=hL.sl.ltI hlt
  cases hA'
  have hi1000:i<=1000:=by omega
  have j1:((2*i:Nat):Int)+1<(n:Int):=by omega
  have j2:((2*i:Nat):Int)<(n:Int):=by omega
  have j3:(0:Int)<=((2*i:Nat):Int):=by omega
  have j4:(0:Int)<=((2*i:Nat):Int)+1:=by omega
  have j5:(((2*i:Nat):Int)+1).toNat=2*i+1:=by omega
  have hp:=pairS_take xs i (by omega)
  rw[show xs.getD (2*i) 0=x from by simp[List.getD,hx],show xs.getD (2*i+1) 0=y from by simp[List.getD,hy]]at hp
  have Hp:=Lib.hid hp
  have HL:=Lib.hid hL
  obtain⟨i0,hi0,hz0,hz1,hz2⟩:=info_parts info_sheet
  have zbel:w.heap.size<=W.heap.size:=hL.bel.size
  have zb:b<W.heap.size:=by have:=hL.bel.size;omega
  generalize hk2:(2*i:Nat)=k2 at*
  clear hL hx hy hp
  have Hk2:=Lib.hid hk2
  clear hk2
  have hw1:IntKind.i64.wrap ((k2:Int)+1)=(k2:Int)+1:=by rw[IntKind.wrap_i64];omega
  have hvb:v.ownBlock≠some b:=λe=>by have:=(HL.out.own.lt b e).1;omega
  go_wp2_with fail
  go_region_held3 (λw'=>w'.cell? ⟨b,o+k2,none⟩=some (.int .i64 x)/\w'.cell? ⟨b,o+(k2+1),none⟩=some (.int .i64 y))
   (first
     |go_keep
     |(go_split_ands
       refine⟨?_,?_⟩
       ·(rw[hgrow.cell_far _ (by simp;omega) (Ne.symm hvb)];assumption)
       ·(rw[hgrow.cell_far _ (by simp;omega) (Ne.symm hvb)];assumption)))
   ((refine step_append_lies _ (by rfl) _ _ _ (by rfl) w.heap.size 49 i0 _ 2 16 und_sheets hi0 hz0 hz1 hz2 rfl (by omega) v i _ (by rfl) ((HL.out.own.alloc _).drew)
      ⟨W.heap.size,0,none⟩ 1 1 [.int .i64 x,.int .i64 y] (by rfl) (by rfl) (World.news_of_block (cs:=#[.int .i64 x,.int .i64 y]) (t:=49) (fr:=(0,0)) (heap_alloc_new W _)) (by simp[Value.oneCell'])
      (by omega) (by simp only[maxLen];omega) (by omega) (by simp;omega) (W.heap.size+1) (by simp) ?_;intro gg cap w3 hown1 hgrow hat hlt'))
  have hrow:∀k,v.ownBlock=some k->w.heap.size<=k:=λk hk=>(HL.out.own.lt k hk).1
  have hWd:Below W.heap.size W (W.alloc (Obj.cells #[Value.int .i64 x,Value.int .i64 y] 49)).drew:=bdrew (balloc (brefl W) _) 1
  have hgr2:Below w.heap.size W w3:=(hWd.mono zbel).trans ⟨hgrow.os,hgrow.tape,hgrow.output,hgrow.size,λk hk=>hgrow.block k (by simp;omega) (λe=>by have:=hrow k e.symm;omega)⟩
  have hL3:LS w w3 (some ⟨b,o,none⟩) n c xs (.slice (some ⟨gg,0,none⟩) (i+1) cap) (i+1) (pairS (xs.take (2*(i+1)))):=⟨HL.out.bel.trans hgr2,HL.out.sl.below hgr2,by
   rw[Hp.out,List.flatMap_append]
   exact hown1⟩
  have HL3:=Lib.hid hL3
  clear hown1 hgrow hat hWd hgr2 hL3
  have hw2:(k2:Int)+2=((2*(i+1):Nat):Int):=by have:=Hk2.out;omega
  have Hw2:=Lib.hid hw2
  clear hw2
  go_wp2
  clear hw1
  refine hK _ _ (m-1) (by have:=Hk2.out;omega) ⟨rfl,i+1,_,by have:=Hk2.out;omega,by have:=Hk2.out;omega,HL3.out,?_⟩
  rw[Hw2.out]
  repeat (first|exact fits_nil|refine fits_none ?_|refine fits_some ?_)
 ·have hpl2:=Lib.hid (pairS_len xs i (by omega))
  have hpa:=Lib.hid (pairS_all xs i (by omega) (by omega))
  have hd:decide (((2*i:Nat):Int)+1<(n:Int))=false:=by simp;omega
  have HL:=Lib.hid hL
  clear hL hK
  generalize hk2:(2*i:Nat)=k2 at*
  have Hk2:=Lib.hid hk2
  clear hk2
  go_wp2
  go_ret
  refine⟨v,rfl,HL.out.bel,?_⟩
  rw[<-hpa.out,hpl2.out]
  exact HL.out.own
end Go.Proofs.YtednconodjeniaaGreat.C
namespace Go.Proofs.YtednconodjeniaaGreat.C
open Go.RowKit Go.Shelf
structure SE(w W:World)(A:Option Addr)(n c:Nat)(xs:List Sh)(B:Option Addr)(d:Nat)(ys:List Sh):Prop where
 bel:Below w.heap.size w W
 s1:Sl 2 encS W W.heap.size A n c xs
 s2:Sl 2 encS W W.heap.size B n d ys
theorem SE.later{w W W':World}{A:Option Addr}{n c:Nat}{xs:List Sh}{B:Option Addr}{d:Nat}{ys:List Sh}(h:SE w W A n c xs B d ys)(hb:Below W.heap.size W W'):SE w W' A n c xs B d ys:=⟨Below.later h.bel hb,h.s1.later hb,h.s2.later hb⟩
set_option maxRecDepth 100000 in
set_option maxHeartbeats 2000000 in
theorem sheetsEq_any(A:Option Addr)(n c:Nat)(xs:List Sh)(B:Option Addr)(m d:Nat)(ys:List Sh)(w:World)(h1:Sl 2 encS w w.heap.size A n c xs)(h2:Sl 2 encS w w.heap.size B m d ys):
 Calls Tryz.prog 76 #[.slice A n c,.slice B m d] w λe w'=>e=.returned (.bool (decide (xs=ys)))/\Below w.heap.size w w':=by
 have hl1:=h1.len
 have hc1:=h1.cap
 have hb1:=h1.big
 have hl2:=h2.len
 have hc2:=h2.cap
 have hb2:=h2.big
 by_cases hnm:n=m
 case neg=>
  have hd:((n:Int) != (m:Int))=true:=by simp;omega
  have HE:=Lib.hid (show decide (xs=ys)=false by
   rw[decide_eq_false_iff_not]
   intro e
   rw[e]at hl1
   omega)
  clear h1 h2 hnm hl1 hl2
  go_enter Tryz.func76,Tryz.ntmps76
  go_wp2
  go_ret
  exact⟨ret_bool HE.out.symm,brefl _⟩
 subst hnm
 have hd:((n:Int) != (n:Int))=false:=by simp
 have HS:=Lib.hid (show SE w w A n c xs B d ys from⟨brefl _,h1,h2⟩)
 have Hl1:=Lib.hid hl1
 have Hl2:=Lib.hid hl2
 clear h1 h2 hl1 hl2
 go_enter Tryz.func76,Tryz.ntmps76
 go_wp2_with fail
 clear hd
 refine loop_n (λk a W=>a.defers=[]/\∃i:Nat,i+k=n/\SE w W A n c xs B d ys/\(∀j,j<i->xs[j]? =ys[j]?)/\Fits (some (.slice A n c)::some (.slice B n d)::none::none::none::some (.int .i64 (i:Nat))::none::none::none::none::none::none::none::none::none::none::none::none::none::none::none::none::none::none::none::none::[]) a.tmps.toList) n ?_ ?_
 ·refine⟨rfl,0,by omega,HS.out,λj hj=>by omega,?_⟩
  repeat (first|exact fits_nil|refine fits_none ?_|refine fits_some ?_)
 clear HS
 intro k a W hI K hK'
 obtain⟨hds,i,hik,hS,hno,hfit⟩:=hI
 obtain⟨f,hf⟩:=fits_act hfit
 rw[hds]at hf
 subst hf
 clear hfit hds
 simp only[fillP,Nat.reduceAdd]
 by_cases hlt:i<n
 ·obtain⟨b1,o1,x,rfl,hb1',hx,g0,g1⟩:=hS.s1.ltS hlt
  obtain⟨b2,o2,y,rfl,hb2',hy,g2,g3⟩:=hS.s2.ltS hlt
  have i1:(i:Int)<(n:Int):=by omega
  have i2:(0:Int)<=(i:Int):=by omega
  have HS:=Lib.hid hS
  by_cases hxy:x=y
  ·subst hxy
   have Hno:=Lib.hid (show∀j,j<i+1->xs[j]? =ys[j]? fromλj hj=>by
    by_cases e:j=i
    ·subst e;rw[hx,hy]
    ·exact hno j (by omega))
   clear hno hx hy hS
   go_wp2_with fail
   refine dag 9 (by kernel_rfl) (by kernel_rfl) (.is ?_::.is ?_::.is ?_::.is ?_::.is ?_::.is ?_::.is ?_::.is ?_::.is ?_::[]) rfl ?st1 ?ob1
   case st1=>simp[Spec.ok]
   case ob1=>
    intro env W' hG
    obtain⟨hc,hf⟩:=bcell hG
    repeat (refine obls_is ?_ ?_;unfold doesAt;go_simp;(try go_bits);(first|(refine⟨brefl _,?_⟩;rfl)|rfl);intro K hK;go_simp;refine hK _ ?_;clear hK K)
    refine obls_nil (λ_=>?_)
    have HS2:=Lib.hid (HS.out.later hG)
    clear hc hf hG g0 g1 g2 g3
    go_wp2
    refine hK' _ _ (k-1) (by omega) ⟨rfl,i+1,by omega,HS2.out,Hno.out,?_⟩
    repeat (first|exact fits_nil|refine fits_none ?_|refine fits_some ?_)
  ·have HE:=Lib.hid (show decide (xs=ys)=false by
    rw[decide_eq_false_iff_not]
    intro e
    subst e
    rw[hx]at hy
    cases hy
    exact hxy rfl)
   have hne:(x.f==y.f&&x.k==y.k)=false:=by
    rw[Bool.and_eq_false_iff]
    by_cases e1:x.f=y.f
    ·right
     simp only[beq_eq_false_iff_ne,ne_eq]
     intro e2
     apply hxy
     cases x;cases y;simp_all
    ·left;simpa using e1
   have hq:∀W,(binOp .neq 49 (.agg #[.int .i64 x.f,.int .i64 x.k]) (.agg #[.int .i64 y.f,.int .i64 y.k])).run Tryz.prog W=.ok (.bool true) W:=by
    intro W
    rw[Bool.and_eq_false_iff]at hne
    rcases hne with h|h<;>(cases h3:(x.f==y.f)<;>simp[go_sem,h,h3])
   clear hno hx hy hS hK' hne hxy
   go_wp2_with fail
   refine dag 9 (by kernel_rfl) (by kernel_rfl) (.is ?_::.is ?_::.is ?_::.is ?_::.is ?_::.is ?_::.is ?_::.is ?_::.is ?_::[]) rfl ?st2 ?ob2
   case st2=>simp[Spec.ok]
   case ob2=>
    intro env W' hG
    obtain⟨hc,hf⟩:=bcell hG
    repeat (refine obls_is ?_ ?_;unfold doesAt;go_simp;(try go_bits);(first|(refine⟨brefl _,?_⟩;rfl)|rfl);intro K hK;go_simp;refine hK _ ?_;clear hK K)
    refine obls_nil (λ_=>?_)
    have HS2:=Lib.hid (HS.out.later hG)
    clear hc hf hG g0 g1 g2 g3
    go_wp2
    go_ret
    exact⟨ret_bool HE.out.symm,HS2.out.bel⟩
 ·obtain rfl:i=n:=by omega
  have HE:=Lib.hid (show decide (xs=ys)=true by
   rw[decide_eq_true_eq]
   apply List.ext_getElem?
   intro j
   by_cases hj:j<i
   ·exact hno j hj
   ·rw[List.getElem?_eq_none (by rw[Hl1.out];omega),List.getElem?_eq_none (by rw[Hl2.out];omega)])
  have HS:=Lib.hid hS
  clear hno hK' hS
  go_wp2
  go_ret
  exact⟨ret_bool HE.out.symm,HS.out.bel⟩
end Go.Proofs.YtednconodjeniaaGreat.C
