/- Plain: the logs, place by place. -/
import Derived.Test.YtednconodjeniaaGreatCCheckCuts
import Derived.Test.YtednconodjeniaaGreatCPath
import Derived.Test.YtednconodjeniaaGreatTSWorks
namespace Go.Proofs.YtednconodjeniaaGreat.C
open Go.RowKit
inductive GoodL(L:Nat)(F:Nat->Int)(ks:List Kd):Nat->List Sh->Prop
 |nil (i:Nat):i<=L->GoodL L F ks i []
 |cons (i f k:Nat) (x:Kd) (l:List Sh):i<=f->ks[k]? =some x->canB L F x f=true->GoodL L F ks (f+x.w.toNat) l->GoodL L F ks i (⟨f,k⟩::l)
def valL(ks:List Kd)(l:List Sh):Int:=(l.map λs=>(ks.getD s.k.toNat ⟨0,0,0⟩).p).sum
section
variable{L:Nat}{F:Nat->Int}{ks:List Kd}
theorem GoodL.len(hk:KOk ks){i:Nat}{l:List Sh}(h:GoodL L F ks i l):i+l.length<=L:=by
 induction h with
 |nil i hi=>simpa using hi
 |cons i f k x l hi hx hc _ ih=>
  have hb:=hk.bd hx
  simp only[List.length_cons]
  omega
theorem GoodL.walk(hk:KOk ks){i:Nat}{l:List Sh}(h:GoodL L F ks i l):∀worth,walkCuts ks l i worth=(worth+valL ks l,0):=by
 induction h with
 |nil i hi=>intro worth;simp[walkCuts,valL]
 |cons i f k x l hi hx hc _ ih=>
  intro worth
  have hb:=hk.bd hx
  have hgd:ks.getD k ⟨0,0,0⟩=x:=by simp[List.getD,hx]
  have e:((f:Nat):Int)+x.w=((f+x.w.toNat:Nat):Int):=by omega
  unfold walkCuts
  rw[if_neg (by show¬((f:Nat):Int)<(i:Int);omega)]
  show walkCuts ks l ((f:Int)+(ks.getD ((k:Nat):Int).toNat ⟨0,0,0⟩).w) (worth+(ks.getD ((k:Nat):Int).toNat ⟨0,0,0⟩).p)=_
  rw[Int.toNat_natCast,hgd,e,ih]
  unfold valL
  simp only[List.map_cons,List.sum_cons,Int.toNat_natCast,hgd,Int.add_assoc]
theorem GoodL.each{i:Nat}{l:List Sh}(h:GoodL L F ks i l):∀s∈l,∃(f k:Nat)(x:Kd),s=⟨f,k⟩/\ks[k]? =some x/\canB L F x f=true:=by
 induction h with
 |nil=>simp
 |cons i f k x l hi hx hc _ ih=>
  intro s hs
  rcases List.mem_cons.1 hs with rfl|hs
  ·exact⟨f,k,x,rfl,hx,hc⟩
  ·exact ih s hs
theorem GoodL.worth(hk:KOk ks){l:List Sh}(h:GoodL L F ks 0 l):cutsP L F ks l=(valL ks l,0):=by
 have hl:=h.len hk
 have hE:=h.each
 unfold cutsP
 rw[if_neg (by omega),if_neg,if_neg]
 ·have:=h.walk hk 0
  rw[Int.zero_add]at this
  exact this
 ·intro ha
  obtain⟨s,hs,hb⟩:=List.any_eq_true.1 ha
  obtain⟨f,k,x,rfl,hx,hc⟩:=hE s hs
  simp[canS,hx,hc]at hb
 ·intro ha
  obtain⟨s,hs,hb⟩:=List.any_eq_true.1 ha
  obtain⟨f,k,x,rfl,hx,hc⟩:=hE s hs
  have hle:=(canB_iff.1 hc).1
  have hbd:=hk.bd hx
  have hkl:=(List.getElem?_eq_some_iff.1 hx).1
  have h1:inR 0 (L:Int) ((f:Nat):Int)=true:=(inR_iff _ _ _).2 ⟨by omega,by omega⟩
  have h2:inR 0 ((ks.length:Int)-1) ((k:Nat):Int)=true:=(inR_iff _ _ _).2 ⟨by omega,by omega⟩
  simp[oddB,h1,h2]at hb
theorem way_waste{i j e:Nat}{v:Int}(hij:i<=j)(hj:j<=L)(h:Way L F ks j e v):Way L F ks i e v:=by
 obtain⟨d,rfl⟩:=Nat.exists_eq_add_of_le hij
 induction d with
 |zero=>exact h
 |succ d ih=>exact ih (by omega) (by omega) (.waste _ _ _ (by omega) (by rw[Nat.add_assoc];exact h))
theorem GoodL.way(hk:KOk ks){i:Nat}{l:List Sh}(h:GoodL L F ks i l):Way L F ks i L (valL ks l):=by
 induction h with
 |nil i hi=>exact way_waste hi (Nat.le_refl _) (.nil L)
 |cons i f k x l hi hx hc _ ih=>
  have hle:=(canB_iff.1 hc).1
  have hbd:=hk.bd hx
  have hgd:ks.getD k ⟨0,0,0⟩=x:=by simp[List.getD,hx]
  have e:valL ks (⟨f,k⟩::l)=x.p+valL ks l:=by
   unfold valL
   simp only[List.map_cons,List.sum_cons,Int.toNat_natCast,hgd]
  rw[e]
  exact way_waste hi (by omega) (.sheet f L k x _ hx hc ih)
theorem GoodL.start{i j:Nat}{l:List Sh}(h:GoodL L F ks j l)(hij:i<=j):GoodL L F ks i l:=by
 cases h with
 |nil _ hj=>exact .nil _ (by omega)
 |cons _ f k x l hi hx hc hr=>exact .cons _ f k x l (by omega) hx hc hr
theorem first_good(hk:KOk ks){Bh:Nat->Int}(hF:From L F ks Bh):∀n i,L<=i+n->i<=L->GoodL L F ks i (firstAt L F ks Bh n i)/\valL ks (firstAt L F ks Bh n i)=Bh i:=by
 intro n
 induction n with
 |zero=>
  intro i h1 h2
  obtain rfl:i=L:=by omega
  exact⟨.nil _ (Nat.le_refl _),by rw[hF.zero];rfl⟩
 |succ n ih=>
  intro i h1 h2
  unfold firstAt
  by_cases hi:i<L
  ·rw[if_pos hi]
   cases hfd:((List.range ks.length).filter (canI L F ks i)).find? (tieB ks Bh i)with
   |some k=>
    have hm:=List.mem_of_find?_eq_some hfd
    have ht:=List.find?_some hfd
    obtain⟨x,hx,hc,hd⟩:=canI_at (by simpa using(List.mem_filter.1 hm).2:canI L F ks i k=true)
    have hle:=(canB_iff.1 hc).1
    have hbd:=hk.bd hx
    unfold tieB at ht
    rw[hd]at ht
    simp only[beq_iff_eq]at ht
    obtain⟨g1,g2⟩:=ih (i+x.w.toNat) (by omega) (by omega)
    simp only[hd]
    refine⟨.cons i i k x _ (Nat.le_refl _) hx hc g1,?_⟩
    have e:∀l,valL ks (⟨i,k⟩::l)=x.p+valL ks l:=λl=>by
     unfold valL
     simp only[List.map_cons,List.sum_cons,Int.toNat_natCast,hd]
    rw[e,g2]
    exact ht
   |none=>
    obtain⟨g1,g2⟩:=ih (i+1) (by omega) (by omega)
    refine⟨g1.start (by omega),?_⟩
    rw[g2]
    have key:∀e v,Way L F ks i e v->e=L->v=Bh i->Bh (i+1)=Bh i:=by
     intro e v hw he hv
     cases hw with
     |nil=>omega
     |waste _ _ _ hl hr=>
      rw[he]at hr
      have a1:=hF.le hr
      have a2:=hF.waste i hi
      have a3:=hF.zero
      omega
     |sheet _ _ k x v' hx hc hr=>
      rw[he]at hr
      have a1:=hF.le hr
      have a2:=hF.sheet i k x hx hc
      have a3:=hF.zero
      exfalso
      have hgd:ks.getD k ⟨0,0,0⟩=x:=by simp[List.getD,hx]
      have hci:canI L F ks i k=true:=by unfold canI;rw[hx];exact hc
      have hno:=List.find?_eq_none.1 hfd k (List.mem_filter.2 ⟨List.mem_range.2 (List.getElem?_eq_some_iff.1 hx).1,hci⟩)
      apply hno
      unfold tieB
      rw[hgd]
      simp only[beq_iff_eq]
      omega
    exact key L _ (hF.way i (by omega)) rfl rfl
  ·obtain rfl:i=L:=by omega
   rw[if_neg hi]
   exact⟨.nil _ (Nat.le_refl _),by rw[hF.zero];rfl⟩
theorem cuts_first(hk:KOk ks):cutsP L F ks (firstAt L F ks (behindAt L F ks L) L 0)=(behindAt L F ks L 0,0):=by
 obtain⟨g1,g2⟩:=first_good hk (behind_from (L:=L) (F:=F) hk) L 0 (by omega) (Nat.zero_le _)
 rw[g1.worth hk,g2]
theorem GoodL.le(hk:KOk ks){l:List Sh}(h:GoodL L F ks 0 l):valL ks l<=behindAt L F ks L 0:=by
 have hF:=behind_from (L:=L) (F:=F) hk
 have:=hF.le (h.way hk)
 have:=hF.zero
 omega
end
theorem sum_ge_one{α:Type}(f:α->Int):∀l:List α,(∀x∈l,0<=f x)->∀a∈l,f a<=(l.map f).sum
 |[],_,a,ha=>by simp at ha
 |x::l,h,a,ha=>by
  simp only[List.map_cons,List.sum_cons]
  have h1:=h x (by simp)
  have h2:=sum_nn f l (λy hy=>h y (by simp[hy]))
  rcases List.mem_cons.1 ha with rfl|ha
  ·omega
  ·have:=sum_ge_one f l (λy hy=>h y (by simp[hy])) a ha
   omega
theorem sum_ge_two{α:Type}(f:α->Int):∀l:List α,(∀x∈l,0<=f x)->∀a b,a≠b->a∈l->b∈l->f a+f b<=(l.map f).sum
 |[],_,a,b,_,ha,_=>by simp at ha
 |x::l,h,a,b,hab,ha,hb=>by
  simp only[List.map_cons,List.sum_cons]
  have h1:=h x (by simp)
  have h':∀y∈l,0<=f y:=λy hy=>h y (by simp[hy])
  rcases List.mem_cons.1 ha with h3|h3
  ·rcases List.mem_cons.1 hb with h4|h4
   ·exact absurd (h3.trans h4.symm) hab
   ·have:=sum_ge_one f l h' b h4
    rw[<-h3];omega
  ·rcases List.mem_cons.1 hb with h4|h4
   ·have:=sum_ge_one f l h' a h3
    rw[<-h4];omega
   ·have:=sum_ge_two f l h' a b hab h3 h4
    omega
section
variable{L:Nat}{F:Nat->Int}{ks:List Kd}
theorem pricesP_ok{ps:List Int}(h:(pricesP L F ks ps).2=0):ps.length=L/\ps.any outP=false/\coverB L F ks (psum ps)=true/\(pricesP L F ks ps).1=psum ps L:=by
 unfold pricesP at h ⊢
 split at h
 ·cases h
 ·split at h
  ·cases h
  ·split at h
   ·rename_i h1 h2 h3
    rw[if_neg h1,if_neg h2,if_pos h3]
    exact⟨by omega,by simpa using h2,h3,rfl⟩
   ·cases h
theorem cover_way(hk:KOk ks){ps:List Int}(h1:ps.length=L)(h2:ps.any outP=false)(h3:coverB L F ks (psum ps)=true){i j:Nat}{v:Int}(h:Way L F ks i j v):j<=L->v<=psum ps j-psum ps i:=by
 have ho:∀i x,ps[i]? =some x->outP x=false:=λi x hx=>by
  cases hb:outP x with
  |false=>rfl
  |true=>rw[<-h2];exact(List.any_eq_true.2 ⟨x,List.mem_of_getElem? hx,hb⟩).symm
 induction h with
 |nil i=>intro _;omega
 |waste i e v hl hw ih=>
  intro he
  obtain⟨x,hx⟩:∃x,ps[i]? =some x:=⟨_,List.getElem?_eq_getElem (by omega)⟩
  have h4:=psum_succ hx
  have h5:=ho i x hx
  simp only[outP,Bool.or_eq_false_iff,decide_eq_false_iff_not]at h5
  have:=ih he
  omega
 |sheet i e k x v hx hc hw ih=>
  intro he
  have hle:=(canB_iff.1 hc).1
  have hbd:=hk.bd hx
  have hgd:ks.getD k ⟨0,0,0⟩=x:=by simp[List.getD,hx]
  have h4:=List.all_eq_true.1 (List.all_eq_true.1 h3 i (List.mem_range.2 (by omega))) k (List.mem_range.2 (List.getElem?_eq_some_iff.1 hx).1)
  unfold coverAt canI at h4
  rw[hx,hgd]at h4
  simp only[hc,Bool.not_true,Bool.false_or,decide_eq_true_eq]at h4
  have:=ih he
  omega
theorem prices_bound(hk:KOk ks){ps:List Int}(h:(pricesP L F ks ps).2=0){v:Int}(hw:Way L F ks 0 L v):v<=(pricesP L F ks ps).1:=by
 obtain⟨h1,h2,h3,h4⟩:=pricesP_ok h
 have:=cover_way hk h1 h2 h3 hw (Nat.le_refl _)
 rw[h4]
 rw[psum_zero]at this
 omega
theorem prices_best(hk:KOk ks){ps:List Int}(h:(pricesP L F ks ps).2=0):behindAt L F ks L 0<=(pricesP L F ks ps).1:=
 prices_bound hk h ((behind_from (L:=L) (F:=F) hk).way 0 (Nat.zero_le _))
inductive TightL(L:Nat)(ks:List Kd)(A:Nat->Int):Nat->List Sh->Prop
 |nil (i:Nat):i<=L->(∀j,i<=j->j<L->A (j+1)=A j)->TightL L ks A i []
end
end Go.Proofs.YtednconodjeniaaGreat.C
namespace Go.Proofs.YtednconodjeniaaGreat
open Go.RowKit Go.Shelf
section
variable{L:Nat}{A:Nat->Int}
theorem grows{i d:Nat}(h:A i<A (i+d)):∃j,i<=j/\j<i+d/\A j<A (j+1):=by
 induction d with
 |zero=>exact absurd h (by simp)
 |succ d ih=>
  by_cases hd:A i<A (i+d)
  ·obtain⟨j,h1,h2,h3⟩:=ih hd
   exact⟨j,h1,by omega,h3⟩
  ·exact⟨i+d,by omega,by omega,by rw[show i+d+1=i+(d+1)by omega];omega⟩
theorem up_le_one{x:Int}(h0:0<=x)(h1:x<=10):upI x 10<=1:=by unfold upI;omega
theorem up_zero:upI 0 10=0:=by decide
theorem loads_le{hs:List Int}(hw:∀j,j<L->A j<=A (j+1))(h0:A 0=0)(hlen:hs.length<=10)(hg:∀h∈hs,∃j:Nat,h=j/\j<L/\A j<A (j+1)):∀t,(t<=L->loadsTo 10 hs t<=A t)/\(L<=t->loadsTo 10 hs t<=A L):=by
 have hc:∀t,0<=cntP hs t/\cntP hs t<=10:=λt=>by
  have:=List.countP_le_length (p:=λh=>decide (h=(t:Int))) (l:=hs)
  unfold cntP
  omega
 have hz:∀t:Nat,¬(t<L/\A t<A (t+1))->cntP hs t=0:=λt ht=>by
  unfold cntP
  have:hs.countP (λh=>decide (h=(t:Int)))=0:=by
   rw[List.countP_eq_zero]
   intro h hh
   obtain⟨j,e,h1,h2⟩:=hg h hh
   simp only[decide_eq_true_eq]
   intro e2
   rw[e2]at e
   have:t=j:=by omega
   subst this
   exact ht ⟨h1,h2⟩
  omega
 intro t
 induction t with
 |zero=>exact⟨λ_=>by rw[h0];exact Int.le_refl _,λh=>by have:L=0:=by omega
                                                       subst this;rw[h0];exact Int.le_refl _⟩
 |succ t ih=>
  have e:loadsTo 10 hs (t+1)=loadsTo 10 hs t+upI (cntP hs t) 10:=rfl
  by_cases hgr:t<L/\A t<A (t+1)
  ·have h1:=up_le_one (hc t).1 (hc t).2
   have h2:=ih.1 (by omega)
   refine⟨λ_=>by rw[e];omega,λh=>?_⟩
   have:L=t+1:=by omega
   subst this
   rw[e]
   omega
  ·rw[e,hz t hgr,up_zero]
   refine⟨λh=>?_,λh=>?_⟩
   ·have h1:=ih.1 (by omega)
    have h2:=hw t (by omega)
    omega
   ·by_cases hL:L<=t
    ·have:=ih.2 hL;omega
    ·have hL2:L=t+1:=by omega
     have h1:=ih.1 (by omega)
     have h2:=hw t (by omega)
     subst hL2
     omega
theorem pick_hours:∀rs:List Rg,(∀x∈rs,∃j:Nat,x.lo<=j/\(j:Int)<=x.hi/\j<L/\A j<A (j+1))->∃hs:List Int,hs.length=rs.length/\(∀(i:Nat)(h:Int)(r:Rg),hs[i]? =some h->rs[i]? =some r->r.lo<=h/\h<=r.hi)/\∀h∈hs,∃j:Nat,h=j/\j<L/\A j<A (j+1)
 |[],_=>⟨[],rfl,λi h r hi=>by simp at hi,λh hh=>by cases hh⟩
 |x::rs,hx=>by
  obtain⟨hs,h1,h2,h3⟩:=pick_hours rs (λy hy=>hx y (List.mem_cons_of_mem _ hy))
  obtain⟨j,e1,e2,e3,e4⟩:=hx x (List.mem_cons_self ..)
  refine⟨(j:Int)::hs,by simp[h1],λi h r hi hr=>?_,λh hh=>?_⟩
  ·cases i with
   |zero=>simp at hi hr;subst hi;subst hr;exact⟨e1,e2⟩
   |succ i=>exact h2 i h r (by simpa using hi) (by simpa using hr)
  ·rcases List.mem_cons.1 hh with rfl|hh
   ·exact⟨j,rfl,e3,e4⟩
   ·exact h3 h hh
theorem la_worth{rs:List Rg}(hr:RsOk rs)(hL:L<=101)(hw:∀j,j<L->A j<=A (j+1))(h0:A 0=0)(hx:∀x∈rs,∃j:Nat,x.lo<=j/\(j:Int)<=x.hi/\j<L/\A j<A (j+1)):LA rs 10 101<=A L:=by
 obtain⟨hs,h1,h2,h3⟩:=pick_hours rs hx
 have h4:=hours_least (L:=10) hr (by omega) h1 (in_hours h2)
 have h5:=(loads_le hw h0 (by rw[h1];exact hr.1) h3 101).2 hL
 exact Int.le_trans h4 h5
end
end Go.Proofs.YtednconodjeniaaGreat
namespace Go.Proofs.YtednconodjeniaaGreat
open Go.RowKit Go.Shelf
def winOf(wd:Nat)(l:List Sh):List Rg:=l.map λs=>⟨s.f,s.f+wd-1⟩
theorem cuts_sep{L wd:Nat}{F:Nat->Int}(h1:1<=wd){i:Nat}{l:List Sh}(h:C.GoodL L F [⟨wd,1,0⟩] i l):∀e:Int,e<i->sepB e (winOf wd l)=true/\∀r∈winOf wd l,∃f:Nat,r=⟨f,f+wd-1⟩/\f+wd<=L/\C.canB L F ⟨wd,1,0⟩ f=true:=by
 induction h with
 |nil i hi=>exactλe he=>⟨rfl,λr hr=>by cases hr⟩
 |cons i f k x l hif hk hcan _ ih=>
  intro e he
  have hx:x=⟨wd,1,0⟩:=by
   cases k with
   |zero=>simp at hk;exact hk.symm
   |succ k=>simp at hk
  subst hx
  have hle:=(C.canB_iff.1 hcan).1
  have hle':f+wd<=L:=by have:((f:Int)+(wd:Int))<=(L:Int):=hle;omega
  obtain⟨g1,g2⟩:=ih ((f:Int)+wd-1) (by show(f:Int)+wd-1<((f+(wd:Int).toNat:Nat):Int);omega)
  refine⟨?_,λr hr=>?_⟩
  ·show(decide (e<(f:Int))&&sepB ((f:Int)+wd-1) (winOf wd l))=true
   rw[g1,Bool.and_true]
   exact decide_eq_true (by omega)
  ·rcases List.mem_cons.1 hr with rfl|hr
   ·exact⟨f,rfl,hle',hcan⟩
   ·exact g2 r hr
theorem sum_ge{α:Type}(f:α->Int):∀l:List α,(∀x∈l,1<=f x)->(l.length:Int)<=(l.map f).sum
 |[],_=>by simp
 |a::l,h=>by
  have h1:=sum_ge f l (λx hx=>h x (List.mem_cons_of_mem _ hx))
  have h2:=h a (List.mem_cons_self ..)
  simp only[List.length_cons,List.map_cons,List.sum_cons]
  omega
theorem need_one{rs:List Rg}(hr:rs.length<=10){r:Rg}(h:r∈rs):1<=needP 10 rs r:=by
 have h1:0<rs.countP (inWd r):=List.countP_pos_iff.2 ⟨r,h,by unfold inWd;simp⟩
 have h2:=List.countP_le_length (p:=inWd r) (l:=rs)
 unfold needP upI
 omega
theorem wins_prove{rs:List Rg}(hr:RsOk rs)(hy:yardE 10 rs=0){ws:List Rg}(hs:sepB (-1) ws=true)(hlen:ws.length<=10)(hin:∀r∈ws,r∈rs)(hb:ws.any badR=false):proofE 10 rs ws=0/\(ws.length:Int)<=proofV 10 rs ws/\proofV 10 rs ws<=LA rs 10 101:=by
 have he:proofE 10 rs ws=0:=by
  unfold proofE
  rw[if_pos hy,if_neg (by omega),hb,hs]
  rfl
 refine⟨he,?_,(proof_least (L:=10) hr (by omega) he).2⟩
 unfold proofV
 rw[if_pos he]
 exact sum_ge _ ws (λr hr'=>need_one hr.1 (hin r hr'))
end Go.Proofs.YtednconodjeniaaGreat
namespace Go.Proofs.YtednconodjeniaaGreat
open Go.RowKit Go.Shelf
theorem nodup_len{α:Type}[DecidableEq α]:∀(ws rs:List α),ws.Nodup->(∀r∈ws,r∈rs)->ws.length<=rs.length
 |[],_,_,_=>Nat.zero_le _
 |w::ws,rs,hn,hs=>by
  obtain⟨h1,h2⟩:=List.nodup_cons.1 hn
  have hw:=hs w (List.mem_cons_self ..)
  have h3:=nodup_len ws (rs.erase w) h2 (λr hr=>(List.mem_erase_of_ne (λ(e:r=w)=>h1 (by rw[<-e];exact hr))).2 (hs r (List.mem_cons_of_mem _ hr)))
  have h4:=List.length_erase_of_mem hw
  have h5:=List.length_pos_of_mem hw
  simp only[List.length_cons]
  omega
theorem sep_low:∀{ws:List Rg}{e:Int},sepB e ws=true->(∀r∈ws,r.lo<=r.hi)->∀r∈ws,e<r.lo
 |[],_,_,_,r,hr=>by cases hr
 |w::ws,e,h,hle,r,hr=>by
  simp only[sepB,Bool.and_eq_true,decide_eq_true_eq]at h
  rcases List.mem_cons.1 hr with rfl|hr
  ·exact h.1
  ·have:=sep_low h.2 (λr hr=>hle r (List.mem_cons_of_mem _ hr)) r hr
   have:=hle w (List.mem_cons_self ..)
   omega
theorem sep_nodup:∀{ws:List Rg}{e:Int},sepB e ws=true->(∀r∈ws,r.lo<=r.hi)->ws.Nodup
 |[],_,_,_=>List.nodup_nil
 |w::ws,e,h,hle=>by
  simp only[sepB,Bool.and_eq_true,decide_eq_true_eq]at h
  refine List.nodup_cons.2 ⟨λhin=>?_,sep_nodup h.2 (λr hr=>hle r (List.mem_cons_of_mem _ hr))⟩
  have:=sep_low h.2 (λr hr=>hle r (List.mem_cons_of_mem _ hr)) w hin
  have:=hle w (List.mem_cons_self ..)
  omega
theorem psum_at{ps:List Int}{j:Nat}{x:Int}(h:ps[j]? =some x):C.psum ps (j+1)=C.psum ps j+x:=by
 unfold C.psum
 rw[List.take_add_one,h,List.sum_append]
 simp
theorem psum_hours{hs ps:List Int}{L:Nat}(hlen:hs.length<=10)(hp:∀j,j<L->ps[j]? =some (if 0<cntP hs j then 1 else 0)):∀t,t<=L->C.psum ps t=loadsTo 10 hs t:=by
 intro t
 induction t with
 |zero=>intro _;rfl
 |succ t ih=>
  intro ht
  have e:loadsTo 10 hs (t+1)=loadsTo 10 hs t+upI (cntP hs t) 10:=rfl
  rw[psum_at (hp t (by omega)),ih (by omega),e]
  have hc:0<=cntP hs t/\cntP hs t<=10:=by
   have:=List.countP_le_length (p:=λh=>decide (h=(t:Int))) (l:=hs)
   unfold cntP
   omega
  by_cases h0:0<cntP hs t
  ·rw[if_pos h0]
   have:upI (cntP hs t) 10=1:=by unfold upI;omega
   omega
  ·rw[if_neg h0]
   have:upI (cntP hs t) 10=0:=by unfold upI;omega
   omega
theorem loads_rest{hs:List Int}{L:Nat}(h:∀x∈hs,x<(L:Int)):∀d,loadsTo 10 hs (L+d)=loadsTo 10 hs L
 |0=>rfl
 |d+1=>by
  have e:loadsTo 10 hs (L+(d+1))=loadsTo 10 hs (L+d)+upI (cntP hs (L+d)) 10:=rfl
  have hz:cntP hs (L+d)=0:=by
   unfold cntP
   have:hs.countP (λx=>decide (x=((L+d:Nat):Int)))=0:=by
    rw[List.countP_eq_zero]
    intro x hx
    have:=h x hx
    simp only[decide_eq_true_eq]
    omega
   omega
  rw[e,loads_rest h d,hz,up_zero]
  omega
end Go.Proofs.YtednconodjeniaaGreat
namespace Go.Proofs.YtednconodjeniaaGreat
open Go.RowKit Go.Shelf
section
variable{L wd:Nat}{F:Nat->Int}{rs:List Rg}
def LogsOf(L wd:Nat)(F:Nat->Int)(rs:List Rg):Prop:=∀r:Rg,r∈rs↔∃f:Nat,r=⟨f,f+wd-1⟩/\f+wd<=L/\C.canB L F ⟨wd,1,0⟩ f=true
theorem kok_one(h1:1<=wd)(h2:wd<=24):C.KOk [⟨wd,1,0⟩]:=by
 refine⟨by simp,by simp,λx hx=>?_⟩
 rw[List.mem_singleton.1 hx]
 unfold C.badK C.inR
 simp
 omega
theorem logs_ok(h1:1<=wd)(hL:L<=24)(h:LogsOf L wd F rs)(hlen:rs.length<=10):RsOk rs:=by
 refine⟨hlen,λx hx=>?_⟩
 obtain⟨f,rfl,h2,_⟩:=(h x).1 hx
 exact⟨by show(0:Int)<=f;omega,by show(f:Int)<=f+wd-1;omega,by show(f:Int)+wd-1<=100;omega⟩
theorem bad_no{r:Rg}(h0:0<=r.lo)(h1:r.lo<=r.hi)(h2:r.hi<=100):badR r=false:=by
 unfold badR winB inR
 simp
 omega
theorem logs_yard(hr:RsOk rs):yardE 10 rs=0:=by
 unfold yardE
 have h1:inR 1 10 10=true:=by unfold inR;decide
 have h2:rs.any badR=false:=by
  rw[List.any_eq_false]
  intro x hx
  obtain⟨a,b,c⟩:=hr.2 x hx
  rw[bad_no a b c]
  simp
 rw[h1,if_pos rfl,if_neg (by have:=hr.1;omega),h2]
 rfl
theorem few_le_worth(h1:1<=wd)(h2:wd<=24)(hL:L<=24)(h:LogsOf L wd F rs)(hlen:rs.length<=10):LA rs 10 101<=C.aheadAt L F [⟨wd,1,0⟩] L L:=by
 have hU:=C.ahead_upto (L:=L) (F:=F) (kok_one h1 h2)
 refine la_worth (L:=L) (logs_ok h1 hL h hlen) (by omega) hU.waste hU.zero (λx hx=>?_)
 obtain⟨f,rfl,h3,h4⟩:=(h x).1 hx
 have h5:=hU.sheet f 0 ⟨wd,1,0⟩ rfl h4
 have h6:((⟨wd,1,0⟩:Kd).w).toNat=wd:=Int.toNat_natCast wd
 rw[h6]at h5
 have h5:C.aheadAt L F [⟨wd,1,0⟩] L f+1<=C.aheadAt L F [⟨wd,1,0⟩] L (f+wd):=h5
 obtain⟨j,g1,g2,g3⟩:=grows (A:=C.aheadAt L F [⟨wd,1,0⟩] L) (i:=f) (d:=wd) (by omega)
 exact⟨j,by show(f:Int)<=j;omega,by show(j:Int)<=f+wd-1;omega,by omega,g3⟩
theorem val_len{l:List Sh}{i:Nat}(h:C.GoodL L F [⟨wd,1,0⟩] i l):C.valL [⟨wd,1,0⟩] l=l.length:=by
 induction h with
 |nil i hi=>rfl
 |cons i f k x l hif hk hcan _ ih=>
  have hk0:k=0:=by
   cases k with
   |zero=>rfl
   |succ k=>simp at hk
  subst hk0
  unfold C.valL at ih ⊢
  rw[List.map_cons,List.sum_cons,ih]
  simp
  omega
theorem worth_few(h1:1<=wd)(h2:wd<=24)(hL:L<=24)(h:LogsOf L wd F rs)(hlen:rs.length<=10){l:List Sh}(hg:C.GoodL L F [⟨wd,1,0⟩] 0 l)(hv:C.valL [⟨wd,1,0⟩] l=C.aheadAt L F [⟨wd,1,0⟩] L L):
 l.length<=10/\proofE 10 rs (winOf wd l)=0/\proofV 10 rs (winOf wd l)=LA rs 10 101/\C.aheadAt L F [⟨wd,1,0⟩] L L=LA rs 10 101:=by
 have hr:=logs_ok h1 hL h hlen
 obtain⟨g1,g2⟩:=cuts_sep h1 hg (-1) (by omega)
 have hin:∀r∈winOf wd l,r∈rs:=λr hr'=>(h r).2 (g2 r hr')
 have hle:∀r∈winOf wd l,r.lo<=r.hi:=λr hr'=>(hr.2 r (hin r hr')).2.1
 have hll:(winOf wd l).length=l.length:=by simp[winOf]
 have hten:(winOf wd l).length<=10:=Nat.le_trans (nodup_len _ _ (sep_nodup g1 hle) hin) hlen
 have hbad:(winOf wd l).any badR=false:=by
  rw[List.any_eq_false]
  intro x hx
  obtain⟨a,b,c⟩:=hr.2 x (hin x hx)
  rw[bad_no a b c]
  simp
 obtain⟨q1,q2,q3⟩:=wins_prove hr (logs_yard hr) g1 hten hin hbad
 have q4:=few_le_worth h1 h2 hL h hlen
 rw[hll]at q2 hten
 have q5:=val_len hg
 exact⟨hten,q1,by omega,by omega⟩
end
end Go.Proofs.YtednconodjeniaaGreat
namespace Go.Proofs.YtednconodjeniaaGreat
open Go.RowKit Go.Shelf
section
variable{L wd:Nat}{F:Nat->Int}{rs:List Rg}
theorem loads_mono(hs:List Int)(t:Nat):loadsTo 10 hs t<=loadsTo 10 hs (t+1):=by
 have e:loadsTo 10 hs (t+1)=loadsTo 10 hs t+upI (cntP hs t) 10:=rfl
 have hc:0<=cntP hs t:=by unfold cntP;omega
 have:0<=upI (cntP hs t) 10:=by unfold upI;omega
 omega
theorem loads_mono2(hs:List Int)(t:Nat):∀d,loadsTo 10 hs t<=loadsTo 10 hs (t+d)
 |0=>Int.le_refl _
 |d+1=>Int.le_trans (loads_mono2 hs t d) (loads_mono hs (t+d))
theorem loads_grow{hs:List Int}{t:Nat}(h:(t:Int)∈hs):loadsTo 10 hs t+1<=loadsTo 10 hs (t+1):=by
 have e:loadsTo 10 hs (t+1)=loadsTo 10 hs t+upI (cntP hs t) 10:=rfl
 have hc:0<cntP hs t:=by
  have:0<hs.countP (λx=>decide (x=(t:Int))):=List.countP_pos_iff.2 ⟨_,h,by simp⟩
  unfold cntP
  omega
 have:1<=upI (cntP hs t) 10:=by unfold upI;omega
 omega
theorem hours_lt(h:LogsOf L wd F rs){hs:List Int}(hl:hs.length=rs.length)(ha:(hs.zip rs).any wrongB=false):∀x∈hs,0<=x/\x<(L:Int):=λx hx=>by
 have hin:=hours_in ha
 obtain⟨i,hi⟩:=List.getElem?_of_mem hx
 have hil:i<rs.length:=by rw[<-hl];exact(List.getElem?_eq_some_iff.1 hi).1
 obtain⟨g1,g2⟩:=hin i x rs[i] hi (List.getElem?_eq_getElem hil)
 obtain⟨f,hf,h3,_⟩:=(h rs[i]).1 (List.getElem_mem hil)
 rw[hf]at g1 g2
 have g1:(f:Int)<=x:=g1
 have g2:x<=(f:Int)+wd-1:=g2
 omega
theorem hours_prices(h1:1<=wd)(h2:wd<=24)(hL:L<=24)(h:LogsOf L wd F rs)(hlen:rs.length<=10){hs:List Int}(hl:hs.length=rs.length)(ha:(hs.zip rs).any wrongB=false)(hv:loadsP 10 hs=LA rs 10 101)
 {ps:List Int}(hpl:ps.length=L)(hp:∀j,j<L->ps[j]? =some (if 0<cntP hs j then 1 else 0)):C.pricesP L F [⟨wd,1,0⟩] ps=(LA rs 10 101,0):=by
 have hin:=hours_in ha
 have hps:=psum_hours (hs:=hs) (by omega) hp
 have hlt:=hours_lt h hl ha
 have hout:ps.any C.outP=false:=by
  rw[List.any_eq_false]
  intro x hx
  obtain⟨j,hj⟩:=List.getElem?_of_mem hx
  have hjl:j<L:=by rw[<-hpl];exact(List.getElem?_eq_some_iff.1 hj).1
  rw[hp j hjl]at hj
  have hj:=Option.some.inj hj
  unfold C.outP
  by_cases hc:0<cntP hs j
  ·rw[if_pos hc]at hj;rw[<-hj];decide
  ·rw[if_neg hc]at hj;rw[<-hj];decide
 have htot:C.psum ps L=LA rs 10 101:=by
  rw[hps L (Nat.le_refl _),<-hv]
  have:=loads_rest (hs:=hs) (L:=L) (λx hx=>(hlt x hx).2) (101-L)
  rw[show L+(101-L)=101 by omega]at this
  exact this.symm
 rw[C.pricesP_cov hpl hout,if_pos,htot]
 refine C.cover_yes λfr k hf hkl=>?_
 unfold C.coverAt
 cases hc:C.canI L F [⟨wd,1,0⟩] fr k with
 |false=>rfl
 |true=>
  obtain⟨x,hx,hcb,hd⟩:=C.canI_at hc
  have hx1:x=⟨wd,1,0⟩:=by
   cases k with
   |zero=>simp at hx;exact hx.symm
   |succ k=>simp at hx
  subst hx1
  have hle:=(C.canB_iff.1 hcb).1
  have hle:((fr:Int)+(wd:Int))<=(L:Int):=hle
  have hr:=(h ⟨fr,fr+wd-1⟩).2 ⟨fr,rfl,by omega,hcb⟩
  obtain⟨i,hi⟩:=List.getElem?_of_mem hr
  have hil:i<hs.length:=by rw[hl];exact(List.getElem?_eq_some_iff.1 hi).1
  obtain⟨g1,g2⟩:=hin i hs[i] _ (List.getElem?_eq_getElem hil) hi
  have g1:(fr:Int)<=hs[i]:=g1
  have g2:hs[i]<=(fr:Int)+wd-1:=g2
  obtain⟨j,hj⟩:∃j:Nat,hs[i]=j:=⟨hs[i].toNat,by omega⟩
  have hmem:(j:Int)∈hs:=by rw[<-hj];exact List.getElem_mem hil
  have k1:=loads_grow hmem
  have k2:=loads_mono2 hs fr (j-fr)
  have k3:=loads_mono2 hs (j+1) (fr+wd-(j+1))
  rw[show fr+(j-fr)=j by omega]at k2
  rw[show j+1+(fr+wd-(j+1))=fr+wd by omega]at k3
  rw[hd]
  have h6:((⟨wd,1,0⟩:Kd).w).toNat=wd:=Int.toNat_natCast wd
  rw[h6,hps (fr+wd) (by omega),hps fr (by omega)]
  simp only[Bool.not_true,Bool.false_or,decide_eq_true_eq]
  omega
end
end Go.Proofs.YtednconodjeniaaGreat
namespace Go.Proofs.YtednconodjeniaaGreat
open Go.RowKit Go.Shelf
def logsTo(L wd:Nat)(F:Nat->Int)(i:Nat):List Rg:=((List.range i).filter (λf=>C.canB L F ⟨wd,1,0⟩ f)).map (λf:Nat=>(⟨(f:Int),(f:Int)+wd-1⟩:Rg))
theorem logsTo_succ(L wd:Nat)(F:Nat->Int)(i:Nat):logsTo L wd F (i+1)=if C.canB L F ⟨wd,1,0⟩ i=true then logsTo L wd F i++[⟨(i:Int),(i:Int)+wd-1⟩]else logsTo L wd F i:=by
 unfold logsTo
 rw[List.range_succ,List.filter_append,List.map_append]
 by_cases h:C.canB L F ⟨wd,1,0⟩ i=true
 ·rw[if_pos h];simp[h]
 ·rw[if_neg h];simp[h]
theorem logs_of(L wd:Nat)(F:Nat->Int)(h1:1<=wd):LogsOf L wd F (logsTo L wd F L):=by
 intro r
 unfold logsTo
 rw[List.mem_map]
 constructor
 ·rintro⟨f,hf,rfl⟩
  have h2:=(List.mem_filter.1 hf).2
  have h3:=(C.canB_iff.1 h2).1
  have h3:((f:Int)+(wd:Int))<=(L:Int):=h3
  exact⟨f,rfl,by omega,h2⟩
 ·rintro⟨f,rfl,h2,h3⟩
  exact⟨f,List.mem_filter.2 ⟨List.mem_range.2 (by omega),h3⟩,rfl⟩
theorem logsTo_len(L wd:Nat)(F:Nat->Int):∀i,(logsTo L wd F i).length<=i
 |0=>by simp[logsTo]
 |i+1=>by
  have:=logsTo_len L wd F i
  rw[logsTo_succ]
  split
  ·simp;omega
  ·omega
structure Said(L wd:Nat)(F:Nat->Int)(rs:List Rg)(v:Int)(l:List Sh):Prop where
 worth:C.aheadAt L F [⟨wd,1,0⟩] L L=v
 len:l.length<=10
 cuts:(C.cutsP L F [⟨wd,1,0⟩] l).2=0
 yard:yardE 10 rs=0
 few:fewV 10 rs=v
 pe:proofE 10 rs (winOf wd l)=0
 pv:proofV 10 rs (winOf wd l)=v
 hrs:∀(l':List Nat)(ts:List Int)(H:Nat->Int),FillOk rs 10 l' ts H->hoursE 10 rs ((List.range rs.length).map H)=0/\(∀x∈(List.range rs.length).map H,0<=x/\x<(L:Int))/\
  ∀ps:List Int,ps.length=L->(∀j,j<L->ps[j]? =some (if 0<cntP ((List.range rs.length).map H) j then 1 else 0))->C.pricesP L F [⟨wd,1,0⟩] ps=(v,0)
 sh:∀s∈l,0<=s.f/\s.f<=24
theorem good_sh{L wd:Nat}{F:Nat->Int}{l:List Sh}(h1:1<=wd)(hL:L<=24)(h:C.GoodL L F [⟨wd,1,0⟩] 0 l):∀s∈l,0<=s.f/\s.f<=24:=by
 intro s hs
 obtain⟨f,hf,h2,_⟩:=(cuts_sep h1 h (-1) (by omega)).2 ⟨s.f,s.f+wd-1⟩ (List.mem_map.2 ⟨s,hs,rfl⟩)
 injection hf with hf _
 omega
theorem said_of{L wd:Nat}{F:Nat->Int}(h1:1<=wd)(h2:wd<=24)(hL:L<=24)(hlen:(logsTo L wd F L).length<=10):
 Said L wd F (logsTo L wd F L) (LA (logsTo L wd F L) 10 101) (C.firstAt L F [⟨wd,1,0⟩] (C.behindAt L F [⟨wd,1,0⟩] L) L 0):=by
 have hlo:=logs_of L wd F h1
 obtain⟨rs,hrs⟩:∃rs,logsTo L wd F L=rs:=⟨_,rfl⟩
 rw[hrs]at hlen hlo ⊢
 have hk:=kok_one h1 h2
 obtain⟨g1,g2⟩:=C.first_good hk (C.behind_from (L:=L) (F:=F) hk) L 0 (by omega) (Nat.zero_le _)
 have hcf:=C.cuts_first (L:=L) (F:=F) hk
 rw[<-C.ahead_behind hk]at g2
 obtain⟨a1,a2,a3,a4⟩:=worth_few h1 h2 hL hlo hlen g1 g2
 have hr:=logs_ok h1 hL hlo hlen
 have hy:=logs_yard hr
 refine⟨a4,a1,by rw[hcf],hy,by unfold fewV;rw[if_pos hy];rfl,a2,a3,λl' ts H hf=>?_,good_sh h1 hL g1⟩
 obtain⟨b1,b2⟩:=fill_hours hf hr ⟨by omega,by omega⟩
 have b1:hoursE 10 rs ((List.range rs.length).map H)=0:=b1
 have b2:hoursV 10 rs ((List.range rs.length).map H)=LA rs 10 101:=b2
 have hl:((List.range rs.length).map H).length=rs.length:=by simp
 have ha:(((List.range rs.length).map H).zip rs).any wrongB=false:=by
  unfold hoursE at b1
  rw[if_pos hy,if_pos hl]at b1
  cases hc:(((List.range rs.length).map H).zip rs).any wrongB with
  |false=>rfl
  |true=>rw[hc]at b1;cases b1
 have hv:loadsP 10 ((List.range rs.length).map H)=LA rs 10 101:=by
  unfold hoursV at b2
  rw[if_pos b1]at b2
  exact b2
 exact⟨b1,hours_lt hlo hl ha,λps hpl hp=>hours_prices h1 h2 hL hlo hlen hl ha hv hpl hp⟩
end Go.Proofs.YtednconodjeniaaGreat
