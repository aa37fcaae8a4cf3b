/- Peel: the best of fractions, and the first one that is left. No program. -/
import Derived.Test.YtednconodjeniaaGreatPlF
import Derived.Test.YtednconodjeniaaGreatSMapG
import Derived.Test.YtednconodjeniaaGreatPlG
namespace Go.Proofs.YtednconodjeniaaGreat.P
open Go.RowKit Go.Shelf Go.Maps
theorem smQ_look{S:Pr->Prop}{wt:Pr->Int×Int}(h:∀p,S p->smQ (wt p))(p:Pr):smQ (lookP S wt p):=by
 by_cases hs:S p
 ·rw[lookP_yes hs];exact h p hs
 ·rw[lookP_no hs];exact⟨by decide,by decide⟩
structure MV(W:World)(B b k n:Nat)(D:DP)(S:Pr->Prop)(wt:Pr->Int×Int):Prop where
 bv:Blk W B 199 #[.map (some b)]
 own:OwnsM W b k D
 is:MapIs n D S wt
theorem MV.later{W W':World}{B b k n:Nat}{D:DP}{S:Pr->Prop}{wt:Pr->Int×Int}(h:MV W B b k n D S wt)(hb:Below W.heap.size W W'):MV W' B b k n D S wt:=⟨h.bv.later hb,h.own.kept (grown_none hb) (by simp),h.is⟩
theorem field_den(x y:Int)(W:World):(Instr.field 59 (.agg #[.int .i64 x,.int .i64 y]) 1).run Tryz.prog W=.ok (.int .i64 y) W:=by
 have hp:Tryz.prog.plainKey 2=true:=by kernel_rfl
 have h:=run_part_plain (P:=Tryz.prog) W hp (xs:=#[.int .i64 x,.int .i64 y]) (off:=1) (v:=.int .i64 y) rfl
 simp[Instr.field,asAgg,h]
set_option maxRecDepth 100000 in
set_option maxHeartbeats 1000000 in
theorem proof1_any(p q:Pr)(B b k n:Nat)(D:DP)(S:Pr->Prop)(wt:Pr->Int×Int)(W:World)(hn:n<=8)(hp:PrOk n p)(hq:PrOk n q)(hm:MV W B b k n D S wt)(hsm:∀p,S p->smQ (wt p)):
 Calls Tryz.prog 152 #[pv p,pv q,.pointer (some ⟨B,0,none⟩)] W λe w'=>e=.returned (.bool (lessQ (lookP S wt p) (lookP S wt q)))/\Below W.heap.size W w':=by
 obtain⟨x,hx⟩:∃x,lookP S wt p=x:=⟨_,rfl⟩
 obtain⟨y,hy⟩:∃y,lookP S wt q=y:=⟨_,rfl⟩
 have HX:=Lib.hid (show smQ x by rw[<-hx];exact smQ_look hsm p)
 have HY:=Lib.hid (show smQ y by rw[<-hy];exact smQ_look hsm q)
 have HM:=Lib.hid (hm.later (balloc (balloc (brefl W) (.cells #[.int .i64 (p.a:Nat),.int .i64 (p.b:Nat),.int .i64 (p.c:Nat),.int .i64 p.s] 120)) (.cells #[.int .i64 (q.a:Nat),.int .i64 (q.b:Nat),.int .i64 (q.c:Nat),.int .i64 q.s] 120)))
 have Hl1:=Lib.hid (λV(h:MV V B b k n D S wt)=>by have:=look_run h.own h.is hn hp;rwa[hx]at this)
 have Hl2:=Lib.hid (λV(h:MV V B b k n D S wt)=>by have:=look_run h.own h.is hn hq;rwa[hy]at this)
 have HP:=Lib.hid ((Blk.new W 120 #[.int .i64 (p.a:Nat),.int .i64 (p.b:Nat),.int .i64 (p.c:Nat),.int .i64 p.s]).alloc (.cells #[.int .i64 (q.a:Nat),.int .i64 (q.b:Nat),.int .i64 (q.c:Nat),.int .i64 q.s] 120))
 have hQ:=Blk.new (W.alloc (.cells #[.int .i64 (p.a:Nat),.int .i64 (p.b:Nat),.int .i64 (p.c:Nat),.int .i64 p.s] 120)) 120 #[.int .i64 (q.a:Nat),.int .i64 (q.b:Nat),.int .i64 (q.c:Nat),.int .i64 q.s]
 rw[World.size_alloc]at hQ
 have HQ:=Lib.hid hQ
 clear hQ
 rw[hx,hy]
 clear hx hy hsm hm hp hq
 go_enter Tryz.func152,Tryz.ntmps152
 go_wp2_with fail
 refine dag 8 (by kernel_rfl) (by kernel_rfl) (.is ?_::.is ?_::.is ?_::.is ?_::.is ?_::.is ?_::.is ?_::.is ?_::[]) rfl ?sta ?oba
 case sta=>simp[Spec.ok]
 case oba=>
 intro env V hG
 have hM:=HM.out.later hG
 have m0:V.cell? ⟨B,0,none⟩=some (.map (some b)):=hM.bv.cell 0
 have m1:=hM.bv.lt
 have r1:=Hl1.out V hM
 have r2:=Hl2.out V hM
 have hP:=HP.out.later hG
 have hQ:=HQ.out.later hG
 have p0:V.cell? ⟨W.heap.size,0,none⟩=some (.int .i64 (p.a:Nat)):=hP.cell 0
 have p1:V.cell? ⟨W.heap.size,1,none⟩=some (.int .i64 (p.b:Nat)):=hP.cell 1
 have p2:V.cell? ⟨W.heap.size,2,none⟩=some (.int .i64 (p.c:Nat)):=hP.cell 2
 have p3:V.cell? ⟨W.heap.size,3,none⟩=some (.int .i64 p.s):=hP.cell 3
 have q0:V.cell? ⟨W.heap.size+1,0,none⟩=some (.int .i64 (q.a:Nat)):=hQ.cell 0
 have q1:V.cell? ⟨W.heap.size+1,1,none⟩=some (.int .i64 (q.b:Nat)):=hQ.cell 1
 have q2:V.cell? ⟨W.heap.size+1,2,none⟩=some (.int .i64 (q.c:Nat)):=hQ.cell 2
 have q3:V.cell? ⟨W.heap.size+1,3,none⟩=some (.int .i64 q.s):=hQ.cell 3
 have q4:=hQ.lt
 clear hM hP hQ
 iterate 6 (refine obls_is ?_ ?_;unfold doesAt;go_simp;(try go_bits);(first|(refine⟨brefl _,?_⟩;rfl)|rfl);intro K hK;go_simp;refine hK _ ?_;clear hK K)
 refine obls_is ?_ ?_
 ·unfold doesAt
  go_simp
  refine(less_any x y V HX.out HY.out).mono ?_
  rintro e w1⟨rfl,hb1⟩
  (refine⟨?_,hb1⟩;rfl)
 intro K hK
 go_simp
 refine hK _ ?_
 clear hK K
 (refine obls_is ?_ ?_;unfold doesAt;go_simp;(try go_bits);(first|(refine⟨brefl _,?_⟩;rfl)|rfl);intro K hK;go_simp;refine hK _ ?_;clear hK K)
 refine obls_nil (λhx=>?_)
 clear hx
 go_wp2
 go_ret
 exact⟨rfl,Below.later (balloc (balloc (brefl W) _) _) hG⟩
set_option maxRecDepth 100000 in
set_option maxHeartbeats 1000000 in
theorem proof2_any(p q:Pr)(B b k n:Nat)(D:DP)(S:Pr->Prop)(wt:Pr->Int×Int)(W:World)(hn:n<=8)(hp:PrOk n p)(hq:PrOk n q)(hm:MV W B b k n D S wt)(hsm:∀p,S p->smQ (wt p)):
 Calls Tryz.prog 154 #[pv p,pv q,.pointer (some ⟨B,0,none⟩)] W λe w'=>e=.returned (.bool (decide (0<(lookP S wt p).2)&&decide ((lookP S wt q).2=0)))/\Below W.heap.size W w':=by
 have m0:W.cell? ⟨B,0,none⟩=some (.map (some b)):=hm.bv.cell 0
 have m1:=hm.bv.lt
 obtain⟨x,hx⟩:∃x,lookP S wt p=x:=⟨_,rfl⟩
 obtain⟨y,hy⟩:∃y,lookP S wt q=y:=⟨_,rfl⟩
 have HX:=Lib.hid (show smQ x by rw[<-hx];exact smQ_look hsm p)
 have HY:=Lib.hid (show smQ y by rw[<-hy];exact smQ_look hsm q)
 have HM:=Lib.hid (hm.later (balloc (balloc (brefl W) (.cells #[.int .i64 (p.a:Nat),.int .i64 (p.b:Nat),.int .i64 (p.c:Nat),.int .i64 p.s] 120)) (.cells #[.int .i64 (q.a:Nat),.int .i64 (q.b:Nat),.int .i64 (q.c:Nat),.int .i64 q.s] 120)))
 have Hl1:=Lib.hid (λV(h:MV V B b k n D S wt)=>by have:=look_run h.own h.is hn hp;rwa[hx]at this)
 have Hl2:=Lib.hid (λV(h:MV V B b k n D S wt)=>by have:=look_run h.own h.is hn hq;rwa[hy]at this)
 have HP:=Lib.hid ((Blk.new W 120 #[.int .i64 (p.a:Nat),.int .i64 (p.b:Nat),.int .i64 (p.c:Nat),.int .i64 p.s]).alloc (.cells #[.int .i64 (q.a:Nat),.int .i64 (q.b:Nat),.int .i64 (q.c:Nat),.int .i64 q.s] 120))
 have hQ:=Blk.new (W.alloc (.cells #[.int .i64 (p.a:Nat),.int .i64 (p.b:Nat),.int .i64 (p.c:Nat),.int .i64 p.s] 120)) 120 #[.int .i64 (q.a:Nat),.int .i64 (q.b:Nat),.int .i64 (q.c:Nat),.int .i64 q.s]
 rw[World.size_alloc]at hQ
 have HQ:=Lib.hid hQ
 clear hQ
 rw[hx,hy]
 clear hx hy hsm hm hp hq
 obtain⟨x1,x2⟩:=x
 obtain⟨y1,y2⟩:=y
 dsimp only
 have r1:=Hl1.out _ HM.out
 have r2:=Hl2.out _ HM.out
 dsimp only[qv]at r1 r2
 have k1:=field_den x1 x2
 have k2:=field_den y1 y2
 go_enter Tryz.func154,Tryz.ntmps154
 by_cases h0:0<x2
 ·by_cases h1:y2=0
  ·subst h1
   go_wp2
   go_ret
   exact⟨by simp,balloc (balloc (brefl _) _) _⟩
  ·have h3:(y2==0)=false:=by simpa using h1
   go_wp2
   go_ret
   exact⟨by simp[h0,h1],balloc (balloc (brefl _) _) _⟩
 ·have h2:decide (0<x2)=false:=by simpa using h0
  go_wp2
  go_ret
  exact⟨by simp,balloc (balloc (brefl _) _) _⟩
end Go.Proofs.YtednconodjeniaaGreat.P
namespace Go.Proofs.YtednconodjeniaaGreat.P
open Go.RowKit Go.Shelf Go.Maps
theorem prs_stops(m B1 T n:Nat)(A:Option Addr)(c:Nat)(hn8:n<=8)(w:World)(h1:w.cell? ⟨B1,0,none⟩=some (.pointer (some ⟨T,0,none⟩)))(h2:w.cell? ⟨T,0,none⟩=some (.slice A n c))(hB:B1<w.heap.size)(hT:T<w.heap.size):
 SeqStopsK Fence.wide m Tryz.prog 180 #[.pointer (some ⟨B1,0,none⟩)] (λx:P8 n=>#[pv x.1]) (λ_ _=>True)
  (λys=>CovP n (λ_=>True) ys/\ys.length<=2000) (λ_=>True) 2000 w:=λl J Jx W hW _ _ hY h0=>
 proofs1_in m l B1 T n A c hn8 J Jx W hY ((hW.cell (p:=⟨B1,0,none⟩) hB).trans h1) ((hW.cell (p:=⟨T,0,none⟩) hT).trans h2) h0
set_option maxHeartbeats 400000 in
theorem proofs_any(T:Nat)(w:World):
 Calls Tryz.prog 150 #[.pointer (some ⟨T,0,none⟩)] w λe w'=>
  e=.returned (.func (.func 180) #[] #[.pointer (some ⟨w.heap.size,0,none⟩)])/\w.alloc (.cells #[.pointer (some ⟨T,0,none⟩)] 99)=w':=by
 go_enter Tryz.func150,Tryz.ntmps150
 go_wp2
 go_ret
 exact⟨rfl,rfl⟩
def boxedP(a:Act)(p d:Tmp)(x:Pr)(Bx:Nat):Act:={tmps:=(a.tmps.setIfInBounds p (pv x)).setIfInBounds d (.pointer (some ⟨Bx,0,none⟩)),defers:=[]}
abbrev cellsP(x:Pr):Array Value:=#[.int .i64 (x.a:Nat),.int .i64 (x.b:Nat),.int .i64 (x.c:Nat),.int .i64 x.s]
theorem range_prs{B1 T n:Nat}{A:Option Addr}{c:Nat}{g:Operand}{p d:Tmp}{assign body:Code}{Q:Exit->Act->World->Prop}{a:Act}{w:World}
 (hg:a.eval g=.func (.func 180) #[] #[.pointer (some ⟨B1,0,none⟩)])(hn8:n<=8)(h1:w.cell? ⟨B1,0,none⟩=some (.pointer (some ⟨T,0,none⟩)))(h2:w.cell? ⟨T,0,none⟩=some (.slice A n c))(hB:B1<w.heap.size)(hT:T<w.heap.size)
 (I:List (P8 n)->World->Prop)(Ix:Code->List (P8 n)->World->Prop)(hI:∀pre W W',Kept w.heap.size W W'->I pre W->I pre W')(hIx:∀c pre W W',Kept w.heap.size W W'->Ix c pre W->Ix c pre W')(h0:I [] w)
 (hassign:∀(l:Nat)(x:P8 n)(W:World)(K:Act->World->Prop),K (boxedP a p d x.1 W.heap.size) (W.alloc (.cells (cellsP x.1) 120))->
   assign.wpIn (Fence.wide.inRound l) 7 Tryz.prog (Exit.then K (λ_ _ _=>False)) {tmps:=a.tmps.setIfInBounds p (pv x.1),defers:=[]} W)
 (hbody:∀(l:Nat)(pre:List (P8 n))(x:P8 n)(Bx:Nat)(W:World),w.heap.size<=W.heap.size->w.heap.size<=Bx->Blk W Bx 120 (cellsP x.1)->I pre W->pre.length<2000->
   body.wpIn (Fence.wide.inRound l) 7 Tryz.prog (ownPostG w.heap.size (λ_ _=>True) I Ix (pre++[x]) W) (boxedP a p d x.1 Bx) W)
 (hdone:∀(D:Nat)(W:World)(ys:List (P8 n)),w.heap.size<=D->(CovP n (λ_=>True) ys/\ys.length<=2000)->I ys W->W.heap[D]? =some (.deferred (some []))->Q .normal {a with defers:=mark D::a.defers} W)
 (hstop:∀(D:Nat)(c:Code)(pre:List (P8 n))(W:World),w.heap.size<=D->Ix c pre W->W.heap[D]? =some (.deferred (some []))->c.wp Tryz.prog Q {a with defers:=mark D::a.defers} W):
 (Code.rangeFunc g #[p] assign body).wp Tryz.prog Q a w:=by
 refine(wpIn_wide (n:=9)).1 ?_
 refine wpIn_rangeFunc_ownH (F:=Fence.wide) rfl (by omega) hg trivial (enters_of Tryz.func180 (by kernel_rfl) rfl)
  (prs_stops 8 B1 T n A c hn8 w h1 h2 hB hT) (λ_ _=>trivial) (λW l o o' _ ho hc _=>trivial) (Below.refl _ _) (λ_=>rfl)
  (λpre W=>w.heap.size<=W.heap.size/\I pre W) Ix
  (λs W W' row hs hg hr=>⟨Nat.le_trans hs.1 hg.size,hI s W W' (Kept.of_grown hg hr) hs.2⟩) (λc s W W' row hs hg hr=>hIx c s W W' (Kept.of_grown hg hr) hs) ⟨Nat.le_refl _,h0⟩
  (λx a' W=>∃Bx,w.heap.size<=Bx/\Blk W Bx 120 (cellsP x.1)/\a'=boxedP a p d x.1 Bx)
  (λx a' s W W' row hs hg hr=>by
    obtain⟨Bx,h1,h2,h3⟩:=hs
    exact⟨Bx,h1,h2.kept (Kept.of_grown hg hr),h3⟩) ?_ ?_ ?_ ?_
 ·intro l pre x W K hi hK
  have:=hassign l x W K (hK _ _ (KeepsFrom.later (balloc (brefl W) _)) trivial ⟨Nat.le_trans hi.1 (by simp),hI pre W _ (Kept.of_grown (World.grownBy_alloc W _ none) (λr e=>by cases e)) hi.2⟩
   ⟨W.heap.size,hi.1,Blk.new W _ _,rfl⟩)
  have e2:∀v:Value,Array.foldl (λ(t:Array Value)(x:Tmp×Value)=>match x with|(p,v)=>t.setIfInBounds p v) a.tmps ((#[p]:Array Tmp).zip #[v])=a.tmps.setIfInBounds p v:=λv=>by simp
  rw[e2]
  exact this
 ·intro l pre x a' W _ _ hi hx hlen
  obtain⟨Bx,h1,h2,rfl⟩:=hx
  refine wpIn_mono (hbody l pre x Bx W hi.1 h1 h2 hi.2 hlen) ?_
  intro e b W' hq
  cases e with
  |normal=>exact⟨hq.1,hq.2.1,Nat.le_trans hi.1 hq.1.size,hq.2.2⟩
  |_=>exact hq
 ·intro D xs W hD hS hi hd
  exact hdone D W xs hD hS hi.2 hd
 ·intro D c pre W hD _ hi hd
  exact wpIn_wide.2 (hstop D c pre W hD hi hd)
end Go.Proofs.YtednconodjeniaaGreat.P
namespace Go.Proofs.YtednconodjeniaaGreat.P
open Go.RowKit Go.Shelf
def leQ(a b:Int×Int):Prop:=a.1*b.2<=b.1*a.2
theorem leQ_of{a b:Int×Int}(h:lessQ b a=false):leQ a b:=by
 unfold lessQ at h
 unfold leQ
 have:=of_decide_eq_false h
 omega
theorem not_less{a b:Int×Int}(h:leQ a b):lessQ b a=false:=by
 unfold leQ at h
 unfold lessQ
 exact decide_eq_false (by omega)
theorem leQ_trans{a b c:Int×Int}(ha:0<a.2)(hb:0<b.2)(hc:0<c.2)(h1:leQ a b)(h2:leQ b c):leQ a c:=by
 unfold leQ at*
 have e1:=Int.mul_le_mul_of_nonneg_right h1 (Int.le_of_lt hc)
 have e2:=Int.mul_le_mul_of_nonneg_right h2 (Int.le_of_lt ha)
 refine Int.le_of_mul_le_mul_right (a:=b.2) ?_ hb
 have r1:a.1*c.2*b.2=a.1*b.2*c.2:=by rw[Int.mul_right_comm]
 have r2:b.1*a.2*c.2=b.1*c.2*a.2:=by rw[Int.mul_right_comm]
 have r3:c.1*a.2*b.2=c.1*b.2*a.2:=by rw[Int.mul_right_comm]
 omega
theorem less_asymm{a b:Int×Int}(h:lessQ a b=true):leQ a b:=by
 unfold lessQ at h
 unfold leQ
 have:=of_decide_eq_true h
 omega
theorem leQ_refl(a:Int×Int):leQ a a:=Int.le_refl _
theorem best_least(wt:Pr->Int×Int)(l:List Pr):∀x:Pr,(∀p∈x::l,0<(wt p).2)->∀q∈x::l,leQ (wt (bestTo (λa b=>lessQ (wt a) (wt b)) x l)) (wt q):=by
 induction l with
 |nil=>
  intro x _ q hq
  obtain rfl:q=x:=by simpa using hq
  exact leQ_refl _
 |cons y l ih=>
  intro x hp q hq
  have e:bestTo (λa b=>lessQ (wt a) (wt b)) x (y::l)=bestTo (λa b=>lessQ (wt a) (wt b)) (if lessQ (wt y) (wt x)=true then y else x) l:=rfl
  rw[e]
  obtain⟨z,hz⟩:∃z,(if lessQ (wt y) (wt x)=true then y else x)=z:=⟨_,rfl⟩
  rw[hz]
  have hzx:leQ (wt z) (wt x)/\leQ (wt z) (wt y)/\(z=x\/z=y):=by
   rw[<-hz]
   split
   ·rename_i h;exact⟨less_asymm h,leQ_refl _,.inr rfl⟩
   ·rename_i h;exact⟨leQ_refl _,leQ_of (by simpa using h),.inl rfl⟩
  have hpz:∀p∈z::l,0<(wt p).2:=by
   intro p hp'
   rcases List.mem_cons.1 hp' with rfl|h
   ·rcases hzx.2.2 with rfl|rfl
    ·exact hp _ (by simp)
    ·exact hp _ (by simp)
   ·exact hp _ (by simp[h])
  have hih:=ih z hpz
  have hzz:=hih z (by simp)
  have hm:0<(wt (bestTo (λa b=>lessQ (wt a) (wt b)) z l)).2:=by
   rcases bestTo_mem (λa b=>lessQ (wt a) (wt b)) z l with h|h
   ·rw[h];exact hpz _ (by simp)
   ·exact hpz _ (by simp[h])
  simp only[List.mem_cons]at hq
  rcases hq with rfl|rfl|hq
  ·exact leQ_trans hm (hpz z (by simp)) (hp _ (by simp)) hzz hzx.1
  ·exact leQ_trans hm (hpz z (by simp)) (hp _ (by simp)) hzz hzx.2.1
  ·exact hih q (by simp[hq])
theorem best_left(S:Pr->Prop)(wt:Pr->Int×Int)(hd:∀p,S p->0<(wt p).2)(l:List Pr):∀x:Pr,(S x\/∃q∈l,S q)->
 S (bestTo (λa b=>decide (0<(lookP S wt a).2)&&decide ((lookP S wt b).2=0)) x l):=by
 induction l with
 |nil=>
  intro x h
  rcases h with h|⟨q,hq,_⟩
  ·exact h
  ·cases hq
 |cons y l ih=>
  intro x h
  have e:bestTo (λa b=>decide (0<(lookP S wt a).2)&&decide ((lookP S wt b).2=0)) x (y::l)=bestTo (λa b=>decide (0<(lookP S wt a).2)&&decide ((lookP S wt b).2=0)) (if(decide (0<(lookP S wt y).2)&&decide ((lookP S wt x).2=0))=true then y else x) l:=rfl
  rw[e]
  by_cases hx:S x
  ·have hp:=hd x hx
   have h1:(decide (0<(lookP S wt y).2)&&decide ((lookP S wt x).2=0))=false:=by
    rw[lookP_yes hx]
    simp
    intro _
    omega
   rw[h1]
   exact ih x (.inl hx)
  ·by_cases hy:S y
   ·have hp:=hd y hy
    have h1:(decide (0<(lookP S wt y).2)&&decide ((lookP S wt x).2=0))=true:=by
     rw[lookP_yes hy,lookP_no hx]
     simp[hp]
    rw[h1]
    exact ih y (.inl hy)
   ·have h1:(decide (0<(lookP S wt y).2)&&decide ((lookP S wt x).2=0))=false:=by
     rw[lookP_no hy]
     simp
    rw[h1]
    refine ih x (.inr ?_)
    rcases h with h|⟨q,hq,hs⟩
    ·exact absurd h hx
    ·rcases List.mem_cons.1 hq with rfl|hq
     ·exact absurd hs hy
     ·exact⟨q,hq,hs⟩
end Go.Proofs.YtednconodjeniaaGreat.P
