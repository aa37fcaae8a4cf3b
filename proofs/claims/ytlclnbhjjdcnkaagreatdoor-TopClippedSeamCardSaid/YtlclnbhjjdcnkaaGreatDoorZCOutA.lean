/- Plain: what good cuts are worth, and prices that cover (off the text on outright laws). -/
import Derived.Test.YtlclnbhjjdcnkaaGreatDoorZCFirst
import Derived.Test.YtlclnbhjjdcnkaaGreatDoorZCCount
namespace Go.Proofs.YtlclnbhjjdcnkaaGreatDoor.C
open Go.RowKit Go.Shelf
end Go.Proofs.YtlclnbhjjdcnkaaGreatDoor.C
namespace Go.Proofs.YtlclnbhjjdcnkaaGreatDoor.C
open Go.RowKit Go.Shelf
def oddB(L n:Int)(s:Sh):Bool:=!inR 0 L s.f||!inR 0 (n-1) s.k
def canS(L:Nat)(F:Nat->Int)(ks:List Kd)(s:Sh):Bool:=match ks[s.k.toNat]? with
 |some x=>canB L F x s.f.toNat
 |none=>false
def walkCuts(ks:List Kd):List Sh->Int->Int->Int×Int
 |[],_,worth=>(worth,0)
 |s::l,next,worth=>if s.f<next then(0,16)else walkCuts ks l (s.f+(ks.getD s.k.toNat ⟨0,0,0⟩).w) (worth+(ks.getD s.k.toNat ⟨0,0,0⟩).p)
def cutsP(L:Nat)(F:Nat->Int)(ks:List Kd)(cuts:List Sh):Int×Int:=
 if L<cuts.length then(0,6)else if cuts.any (oddB L ks.length)then(0,3)else if cuts.any (λs=>!canS L F ks s)then(0,18)else walkCuts ks cuts 0 0
end Go.Proofs.YtlclnbhjjdcnkaaGreatDoor.C
namespace Go.Proofs.YtlclnbhjjdcnkaaGreatDoor.C
open Go.RowKit
inductive GoodL(L:Nat)(F:Nat->Int)(ks:List Kd):Nat->List Sh->Prop
 |nil (i:Nat):i<=L->GoodL L F ks i []
 |cons (i f k:Nat) (x:Kd) (l:List Sh):i<=f->ks[k]? =some x->canB L F x f=true->GoodL L F ks (f+x.w.toNat) l->GoodL L F ks i (⟨f,k⟩::l)
def valL(ks:List Kd)(l:List Sh):Int:=(l.map λs=>(ks.getD s.k.toNat ⟨0,0,0⟩).p).sum
section
variable{L:Nat}{F:Nat->Int}{ks:List Kd}
theorem GoodL.len(hk:KOk ks){i:Nat}{l:List Sh}(h:GoodL L F ks i l):i+l.length<=L:=by
 induction h with
 |nil i hi=>simpa using hi
 |cons i f k x l hi hx hc _ ih=>
  have hb:=hk.bd hx
  simp only[List.length_cons]
  omega
theorem GoodL.walk(hk:KOk ks){i:Nat}{l:List Sh}(h:GoodL L F ks i l):∀worth,walkCuts ks l i worth=(worth+valL ks l,0):=by
 induction h with
 |nil i hi=>intro worth;simp[walkCuts,valL]
 |cons i f k x l hi hx hc _ ih=>
  intro worth
  have hb:=hk.bd hx
  have hgd:ks.getD k ⟨0,0,0⟩=x:=by simp[List.getD,hx]
  have e:((f:Nat):Int)+x.w=((f+x.w.toNat:Nat):Int):=by omega
  unfold walkCuts
  rw[if_neg (by show¬((f:Nat):Int)<(i:Int);omega)]
  show walkCuts ks l ((f:Int)+(ks.getD ((k:Nat):Int).toNat ⟨0,0,0⟩).w) (worth+(ks.getD ((k:Nat):Int).toNat ⟨0,0,0⟩).p)=_
  rw[Int.toNat_natCast,hgd,e,ih]
  unfold valL
  simp only[List.map_cons,List.sum_cons,Int.toNat_natCast,hgd,Int.add_assoc]
theorem GoodL.each{i:Nat}{l:List Sh}(h:GoodL L F ks i l):∀s∈l,∃(f k:Nat)(x:Kd),s=⟨f,k⟩/\ks[k]? =some x/\canB L F x f=true:=by
 induction h with
 |nil=>simp
 |cons i f k x l hi hx hc _ ih=>
  intro s hs
  rcases List.mem_cons.1 hs with rfl|hs
  ·exact⟨f,k,x,rfl,hx,hc⟩
  ·exact ih s hs
theorem GoodL.worth(hk:KOk ks){l:List Sh}(h:GoodL L F ks 0 l):cutsP L F ks l=(valL ks l,0):=by
 have hl:=h.len hk
 have hE:=h.each
 unfold cutsP
 rw[if_neg (by omega),if_neg,if_neg]
 ·have:=h.walk hk 0
  rw[Int.zero_add]at this
  exact this
 ·intro ha
  obtain⟨s,hs,hb⟩:=List.any_eq_true.1 ha
  obtain⟨f,k,x,rfl,hx,hc⟩:=hE s hs
  simp[canS,hx,hc]at hb
 ·intro ha
  obtain⟨s,hs,hb⟩:=List.any_eq_true.1 ha
  obtain⟨f,k,x,rfl,hx,hc⟩:=hE s hs
  have hle:=(canB_iff.1 hc).1
  have hbd:=hk.bd hx
  have hkl:=(List.getElem?_eq_some_iff.1 hx).1
  have h1:inR 0 (L:Int) ((f:Nat):Int)=true:=(inR_iff _ _ _).2 ⟨by omega,by omega⟩
  have h2:inR 0 ((ks.length:Int)-1) ((k:Nat):Int)=true:=(inR_iff _ _ _).2 ⟨by omega,by omega⟩
  simp[oddB,h1,h2]at hb
theorem way_waste{i j e:Nat}{v:Int}(hij:i<=j)(hj:j<=L)(h:Way L F ks j e v):Way L F ks i e v:=by
 obtain⟨d,rfl⟩:=Nat.exists_eq_add_of_le hij
 induction d with
 |zero=>exact h
 |succ d ih=>exact ih (by omega) (by omega) (.waste _ _ _ (by omega) (by rw[Nat.add_assoc];exact h))
theorem GoodL.way(hk:KOk ks){i:Nat}{l:List Sh}(h:GoodL L F ks i l):Way L F ks i L (valL ks l):=by
 induction h with
 |nil i hi=>exact way_waste hi (Nat.le_refl _) (.nil L)
 |cons i f k x l hi hx hc _ ih=>
  have hle:=(canB_iff.1 hc).1
  have hbd:=hk.bd hx
  have hgd:ks.getD k ⟨0,0,0⟩=x:=by simp[List.getD,hx]
  have e:valL ks (⟨f,k⟩::l)=x.p+valL ks l:=by
   unfold valL
   simp only[List.map_cons,List.sum_cons,Int.toNat_natCast,hgd]
  rw[e]
  exact way_waste hi (by omega) (.sheet f L k x _ hx hc ih)
theorem GoodL.start{i j:Nat}{l:List Sh}(h:GoodL L F ks j l)(hij:i<=j):GoodL L F ks i l:=by
 cases h with
 |nil _ hj=>exact .nil _ (by omega)
 |cons _ f k x l hi hx hc hr=>exact .cons _ f k x l (by omega) hx hc hr
theorem first_good(hk:KOk ks){Bh:Nat->Int}(hF:From L F ks Bh):∀n i,L<=i+n->i<=L->GoodL L F ks i (firstAt L F ks Bh n i)/\valL ks (firstAt L F ks Bh n i)=Bh i:=by
 intro n
 induction n with
 |zero=>
  intro i h1 h2
  obtain rfl:i=L:=by omega
  exact⟨.nil _ (Nat.le_refl _),by rw[hF.zero];rfl⟩
 |succ n ih=>
  intro i h1 h2
  unfold firstAt
  by_cases hi:i<L
  ·rw[if_pos hi]
   cases hfd:((List.range ks.length).filter (canI L F ks i)).find? (tieB ks Bh i)with
   |some k=>
    have hm:=List.mem_of_find?_eq_some hfd
    have ht:=List.find?_some hfd
    obtain⟨x,hx,hc,hd⟩:=canI_at (by simpa using(List.mem_filter.1 hm).2:canI L F ks i k=true)
    have hle:=(canB_iff.1 hc).1
    have hbd:=hk.bd hx
    unfold tieB at ht
    rw[hd]at ht
    simp only[beq_iff_eq]at ht
    obtain⟨g1,g2⟩:=ih (i+x.w.toNat) (by omega) (by omega)
    simp only[hd]
    refine⟨.cons i i k x _ (Nat.le_refl _) hx hc g1,?_⟩
    have e:∀l,valL ks (⟨i,k⟩::l)=x.p+valL ks l:=λl=>by
     unfold valL
     simp only[List.map_cons,List.sum_cons,Int.toNat_natCast,hd]
    rw[e,g2]
    exact ht
   |none=>
    obtain⟨g1,g2⟩:=ih (i+1) (by omega) (by omega)
    refine⟨g1.start (by omega),?_⟩
    rw[g2]
    have key:∀e v,Way L F ks i e v->e=L->v=Bh i->Bh (i+1)=Bh i:=by
     intro e v hw he hv
     cases hw with
     |nil=>omega
     |waste _ _ _ hl hr=>
      rw[he]at hr
      have a1:=hF.le hr
      have a2:=hF.waste i hi
      have a3:=hF.zero
      omega
     |sheet _ _ k x v' hx hc hr=>
      rw[he]at hr
      have a1:=hF.le hr
      have a2:=hF.sheet i k x hx hc
      have a3:=hF.zero
      exfalso
      have hgd:ks.getD k ⟨0,0,0⟩=x:=by simp[List.getD,hx]
      have hci:canI L F ks i k=true:=by unfold canI;rw[hx];exact hc
      have hno:=List.find?_eq_none.1 hfd k (List.mem_filter.2 ⟨List.mem_range.2 (List.getElem?_eq_some_iff.1 hx).1,hci⟩)
      apply hno
      unfold tieB
      rw[hgd]
      simp only[beq_iff_eq]
      omega
    exact key L _ (hF.way i (by omega)) rfl rfl
  ·obtain rfl:i=L:=by omega
   rw[if_neg hi]
   exact⟨.nil _ (Nat.le_refl _),by rw[hF.zero];rfl⟩
theorem cuts_first(hk:KOk ks):cutsP L F ks (firstAt L F ks (behindAt L F ks L) L 0)=(behindAt L F ks L 0,0):=by
 obtain⟨g1,g2⟩:=first_good hk (behind_from (L:=L) (F:=F) hk) L 0 (by omega) (Nat.zero_le _)
 rw[g1.worth hk,g2]
end
end Go.Proofs.YtlclnbhjjdcnkaaGreatDoor.C
