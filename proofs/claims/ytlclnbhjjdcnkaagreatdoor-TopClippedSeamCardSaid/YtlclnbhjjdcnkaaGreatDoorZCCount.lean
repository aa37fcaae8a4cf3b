/- clip.table.count: how many best cuts there are, from each place on. -/
import Derived.Test.YtlclnbhjjdcnkaaGreatDoorZCNew
import Derived.Test.YtlclnbhjjdcnkaaGreatDoorZCOpen
import Derived.Deep.OwnRows
namespace Go.Proofs.YtlclnbhjjdcnkaaGreatDoor.C
open Go.RowKit
inductive Way(L:Nat)(F:Nat->Int)(ks:List Kd):Nat->Nat->Int->Prop
 |nil (i:Nat):Way L F ks i i 0
 |waste (i e:Nat) (v:Int):i+1<=L->Way L F ks (i+1) e v->Way L F ks i e v
 |sheet (i e k:Nat) (x:Kd) (v:Int):ks[k]? =some x->canB L F x i=true->Way L F ks (i+x.w.toNat) e v->Way L F ks i e (x.p+v)
section
variable{L:Nat}{F:Nat->Int}{ks:List Kd}
theorem Way.trans{i j e:Nat}{u v:Int}(h:Way L F ks i j u)(k:Way L F ks j e v):Way L F ks i e (u+v):=by
 induction h with
 |nil i=>simpa using k
 |waste i e' v' hl _ ih=>exact .waste i e _ hl (ih k)
 |sheet i e' kk x v' hx hc _ ih=>rw[Int.add_assoc];exact .sheet i e kk x _ hx hc (ih k)
theorem Way.one{i k:Nat}{x:Kd}(hx:ks[k]? =some x) (hc:canB L F x i=true):Way L F ks i (i+x.w.toNat) x.p:=by
 have:=Way.sheet (L:=L) (F:=F) i _ k x 0 hx hc (.nil _)
 simpa using this
structure UpTo(L:Nat)(F:Nat->Int)(ks:List Kd)(A:Nat->Int):Prop where
 zero:A 0=0
 waste:∀i,i<L->A i<=A (i+1)
 sheet:∀(i k:Nat)(x:Kd),ks[k]? =some x->canB L F x i=true->A i+x.p<=A (i+x.w.toNat)
 way:∀j,j<=L->Way L F ks 0 j (A j)
structure From(L:Nat)(F:Nat->Int)(ks:List Kd)(Bh:Nat->Int):Prop where
 zero:Bh L=0
 waste:∀i,i<L->Bh (i+1)<=Bh i
 sheet:∀(i k:Nat)(x:Kd),ks[k]? =some x->canB L F x i=true->Bh (i+x.w.toNat)+x.p<=Bh i
 way:∀j,j<=L->Way L F ks j L (Bh j)
theorem UpTo.le{A:Nat->Int}(h:UpTo L F ks A){i j:Nat}{v:Int}(hw:Way L F ks i j v):A i+v<=A j:=by
 induction hw with
 |nil i=>omega
 |waste i e v hl _ ih=>have:=h.waste i (by omega);omega
 |sheet i e k x v hx hc _ ih=>have:=h.sheet i k x hx hc;omega
theorem From.le{Bh:Nat->Int}(h:From L F ks Bh){i j:Nat}{v:Int}(hw:Way L F ks i j v):Bh j+v<=Bh i:=by
 induction hw with
 |nil i=>omega
 |waste i e v hl _ ih=>have:=h.waste i (by omega);omega
 |sheet i e k x v hx hc _ ih=>have:=h.sheet i k x hx hc;omega
theorem mx_le_left(a b:Int):a<=mx a b:=by unfold mx;split<;>omega
theorem mx_le_right(a b:Int):b<=mx a b:=by unfold mx;split<;>omega
theorem mx_or(a b:Int):mx a b=a\/mx a b=b:=by unfold mx;split<;>simp
theorem canI_at{i k:Nat}(h:canI L F ks i k=true):∃x,ks[k]? =some x/\canB L F x i=true/\ks.getD k ⟨0,0,0⟩=x:=by
 unfold canI at h
 cases hx:ks[k]? with
 |none=>rw[hx]at h;cases h
 |some x=>rw[hx]at h;exact⟨x,rfl,h,by simp[List.getD,hx]⟩
theorem aheadIn_mono(i:Nat):∀(l:List Nat)(A:Nat->Int)(j:Nat),A j<=aheadIn ks i A l j:=by
 intro l
 induction l with
 |nil=>intro A j;exact Int.le_refl _
 |cons k l ih=>
  intro A j
  refine Int.le_trans ?_ (ih _ j)
  unfold relA upd
  split
  ·rename_i e;rw[e];exact mx_le_left _ _
  ·exact Int.le_refl _
theorem aheadIn_old(hk:KOk ks)(i:Nat):∀(l:List Nat)(A:Nat->Int)(j:Nat),(∀k∈l,canI L F ks i k=true)->j<=i->aheadIn ks i A l j=A j:=by
 intro l
 induction l with
 |nil=>intro A j _ _;rfl
 |cons k l ih=>
  intro A j hl hj
  show aheadIn ks i (relA A i _) l j=A j
  rw[ih _ j (λk' hk'=>hl k' (by simp[hk'])) hj]
  obtain⟨x,hx,_,hd⟩:=canI_at (hl k (by simp))
  have hb:=hk.bd hx
  rw[hd]
  unfold relA upd
  rw[if_neg (by omega)]
theorem aheadIn_has(hk:KOk ks)(i:Nat):∀(l:List Nat)(A:Nat->Int),(∀k∈l,canI L F ks i k=true)->∀k∈l,A i+(ks.getD k ⟨0,0,0⟩).p<=aheadIn ks i A l (i+(ks.getD k ⟨0,0,0⟩).w.toNat):=by
 intro l
 induction l with
 |nil=>intro A _ k hm;simp at hm
 |cons k l ih=>
  intro A hl k' hm
  have hl':∀k∈l,canI L F ks i k=true:=λk' hk'=>hl k' (by simp[hk'])
  have hold:relA A i (ks.getD k ⟨0,0,0⟩) i=A i:=by
   obtain⟨x,hx,_,hd⟩:=canI_at (hl k (by simp))
   have hb:=hk.bd hx
   rw[hd]
   unfold relA upd
   rw[if_neg (by omega)]
  rcases List.mem_cons.1 hm with rfl|hm
  ·refine Int.le_trans ?_ (aheadIn_mono i l _ _)
   unfold relA upd
   rw[if_pos rfl]
   exact mx_le_right _ _
  ·have:=ih (relA A i (ks.getD k ⟨0,0,0⟩)) hl' k' hm
   rw[hold]at this
   exact this
theorem aheadIn_way(i:Nat):∀(l:List Nat)(A:Nat->Int),(∀k∈l,canI L F ks i k=true)->(∀j,Way L F ks 0 i (A i)/\(Way L F ks 0 j (A j)\/A j=0/\i<j))->(∀j,Way L F ks 0 j (aheadIn ks i A l j)\/aheadIn ks i A l j=0/\i<j):=by
 intro l
 induction l with
 |nil=>intro A _ h j;exact(h j).2
 |cons k l ih=>
  intro A hl h
  obtain⟨x,hx,hc,hd⟩:=canI_at (hl k (by simp))
  show∀j,Way L F ks 0 j (aheadIn ks i (relA A i _) l j)\/aheadIn ks i (relA A i _) l j=0/\i<j
  have hstep:∀j,Way L F ks 0 j (relA A i (ks.getD k ⟨0,0,0⟩) j)\/relA A i (ks.getD k ⟨0,0,0⟩) j=0/\i<j:=by
   intro j
   rw[hd]
   unfold relA upd
   split
   ·rename_i e
    rcases mx_or (A (i+x.w.toNat)) (A i+x.p)with h1|h1
    ·rw[h1,e];exact(h _).2
    ·rw[h1,e];exact .inl ((h 0).1.trans (.one hx hc))
   ·exact(h j).2
  refine ih _ (λk' hk'=>hl k' (by simp[hk'])) (λj=>⟨?_,hstep j⟩)
  rcases hstep i with h1|⟨_,h2⟩
  ·exact h1
  ·omega
structure UpIn(L:Nat)(F:Nat->Int)(ks:List Kd)(n:Nat)(A:Nat->Int):Prop where
 zero:A 0=0
 waste:∀i,i<n->A i<=A (i+1)
 sheet:∀(i k:Nat)(x:Kd),i<n->ks[k]? =some x->canB L F x i=true->A i+x.p<=A (i+x.w.toNat)
 way:∀j,Way L F ks 0 j (A j)\/A j=0/\n<j
theorem aheadAt_in(hk:KOk ks)(n:Nat)(hn:n<=L):UpIn L F ks n (aheadAt L F ks n):=by
 induction n with
 |zero=>exact⟨rfl,by omega,by omega,λj=>by
   cases j with
   |zero=>exact .inl (.nil 0)
   |succ j=>exact .inr ⟨rfl,by omega⟩⟩
 |succ n ih=>
  have h:=ih (by omega)
  obtain⟨A,hA⟩:∃A,aheadAt L F ks n=A:=⟨_,rfl⟩
  rw[hA]at h
  show UpIn L F ks (n+1) (aheadIn ks n (upd (aheadAt L F ks n) (n+1) (mx (aheadAt L F ks n (n+1)) (aheadAt L F ks n n))) _)
  rw[hA]
  obtain⟨l,hl⟩:∃l,(List.range ks.length).filter (canI L F ks n)=l:=⟨_,rfl⟩
  rw[hl]
  have hlc:∀k∈l,canI L F ks n k=true:=λk hm=>by rw[<-hl]at hm;simpa using(List.mem_filter.1 hm).2
  obtain⟨A1,hA1⟩:∃A1,upd A (n+1) (mx (A (n+1)) (A n))=A1:=⟨_,rfl⟩
  rw[hA1]
  have e1:∀j,j≠n+1->A1 j=A j:=λj hj=>by rw[<-hA1];unfold upd;rw[if_neg hj]
  have e2:A1 (n+1)=mx (A (n+1)) (A n):=by rw[<-hA1];unfold upd;rw[if_pos rfl]
  have e3:∀j,A j<=A1 j:=λj=>by
   by_cases e:j=n+1
   ·rw[e,e2];exact mx_le_left _ _
   ·rw[e1 j e];exact Int.le_refl _
  have old:=λj(hj:j<=n)=>aheadIn_old (L:=L) (F:=F) hk n l A1 j hlc hj
  have mono:=λj=>aheadIn_mono (ks:=ks) n l A1 j
  have hwn:Way L F ks 0 n (A n):=by
   rcases h.way n with h1|⟨_,h1⟩
   ·exact h1
   ·omega
  have wn1:Way L F ks n (n+1) 0:=.waste n _ 0 (by omega) (.nil _)
  refine⟨?_,?_,?_,?_⟩
  ·rw[old 0 (by omega),e1 0 (by omega)];exact h.zero
  ·intro i hi
   by_cases e:i=n
   ·subst e
    rw[old i (by omega),e1 i (by omega)]
    have:=mono (i+1)
    have:=mx_le_right (A (i+1)) (A i)
    omega
   ·rw[old i (by omega),e1 i (by omega),old (i+1) (by omega),e1 (i+1) (by omega)]
    exact h.waste i (by omega)
  ·intro i k x hi hx hc
   by_cases e:i=n
   ·subst e
    rw[old i (by omega)]
    have hm:k∈l:=by
     rw[<-hl,List.mem_filter]
     refine⟨List.mem_range.2 (List.getElem?_eq_some_iff.1 hx).1,?_⟩
     unfold canI;rw[hx];exact hc
    have:=aheadIn_has (L:=L) (F:=F) hk i l A1 hlc k hm
    rwa[show ks.getD k ⟨0,0,0⟩=x from by simp[List.getD,hx]]at this
   ·rw[old i (by omega),e1 i (by omega)]
    have h1:=h.sheet i k x (by omega) hx hc
    have h2:=mono (i+x.w.toNat)
    have h3:=e3 (i+x.w.toNat)
    omega
  ·have hst:∀j,Way L F ks 0 j (A1 j)\/A1 j=0/\n+1<j:=by
    intro j
    by_cases e:j=n+1
    ·rw[e,e2]
     rcases mx_or (A (n+1)) (A n)with h1|h1
     ·rw[h1]
      rcases h.way (n+1)with h2|⟨h2,_⟩
      ·exact .inl h2
      ·have h3:=mx_le_right (A (n+1)) (A n)
       rw[h1,h2]at h3
       have h4:0<=A n:=by
        have:=aheadAt_bd (L:=L) (F:=F) hk n n
        rw[hA]at this;exact this.1
       have h5:A n=0:=by omega
       have:=hwn.trans wn1
       rw[h5]at this
       rw[h2]
       exact .inl (by simpa using this)
     ·rw[h1]
      have:=hwn.trans wn1
      exact .inl (by simpa using this)
    ·rw[e1 j e]
     rcases h.way j with h1|⟨h1,h2⟩
     ·exact .inl h1
     ·exact .inr ⟨h1,by omega⟩
   intro j
   have hn1:Way L F ks 0 n (A1 n):=by rw[e1 n (by omega)];exact hwn
   have:=aheadIn_way (L:=L) (F:=F) n l A1 hlc (λj=>⟨hn1,by
    rcases hst j with h1|⟨h1,h2⟩
    ·exact .inl h1
    ·exact .inr ⟨h1,by omega⟩⟩) j
   rcases this with h1|⟨h1,h2⟩
   ·exact .inl h1
   ·by_cases e:j=n+1
    ·subst e
     rw[h1]
     have h3:=mono (n+1)
     rw[h1]at h3
     rcases hst (n+1)with h4|⟨_,h4⟩
     ·have h5:0<=A1 (n+1):=by
       rw[e2]
       have h6:=mx_le_right (A (n+1)) (A n)
       have:=aheadAt_bd (L:=L) (F:=F) hk n n
       rw[hA]at this
       omega
      have h6:A1 (n+1)=0:=by omega
      rw[h6]at h4
      exact .inl h4
     ·omega
    ·exact .inr ⟨h1,by omega⟩
theorem ahead_upto(hk:KOk ks):UpTo L F ks (aheadAt L F ks L):=by
 have h:=aheadAt_in (L:=L) (F:=F) hk L (Nat.le_refl _)
 refine⟨h.zero,h.waste,λi k x hx hc=>h.sheet i k x ?_ hx hc,λj hj=>?_⟩
 ·have h1:=(canB_iff.1 hc).1
  have h2:=hk.bd hx
  omega
 ·rcases h.way j with h1|⟨_,h1⟩
  ·exact h1
  ·omega
theorem behindIn_mono(i:Nat):∀(l:List Nat)(A:Nat->Int)(j:Nat),A j<=behindIn ks i A l j:=by
 intro l
 induction l with
 |nil=>intro A j;exact Int.le_refl _
 |cons k l ih=>
  intro A j
  refine Int.le_trans ?_ (ih _ j)
  unfold relB upd
  split
  ·rename_i e;rw[e];exact mx_le_left _ _
  ·exact Int.le_refl _
theorem behindIn_old(i:Nat):∀(l:List Nat)(A:Nat->Int)(j:Nat),j≠i->behindIn ks i A l j=A j:=by
 intro l
 induction l with
 |nil=>intro A j _;rfl
 |cons k l ih=>
  intro A j hj
  show behindIn ks i (relB A i _) l j=A j
  rw[ih _ j hj]
  unfold relB upd
  rw[if_neg hj]
theorem behindIn_has(hk:KOk ks)(i:Nat):∀(l:List Nat)(A:Nat->Int),(∀k∈l,canI L F ks i k=true)->∀k∈l,A (i+(ks.getD k ⟨0,0,0⟩).w.toNat)+(ks.getD k ⟨0,0,0⟩).p<=behindIn ks i A l i:=by
 intro l
 induction l with
 |nil=>intro A _ k hm;simp at hm
 |cons k l ih=>
  intro A hl k' hm
  have hl':∀k∈l,canI L F ks i k=true:=λk' hk'=>hl k' (by simp[hk'])
  rcases List.mem_cons.1 hm with rfl|hm
  ·refine Int.le_trans ?_ (behindIn_mono i l _ _)
   unfold relB upd
   rw[if_pos rfl]
   exact mx_le_right _ _
  ·have:=ih (relB A i (ks.getD k ⟨0,0,0⟩)) hl' k' hm
   obtain⟨x,hx,_,hd⟩:=canI_at (hl' k' hm)
   have hb:=hk.bd hx
   have e:relB A i (ks.getD k ⟨0,0,0⟩) (i+(ks.getD k' ⟨0,0,0⟩).w.toNat)=A (i+(ks.getD k' ⟨0,0,0⟩).w.toNat):=by
    rw[hd]
    unfold relB upd
    rw[if_neg (by omega)]
   rw[e]at this
   exact this
theorem behindIn_way(hk:KOk ks)(i:Nat):∀(l:List Nat)(A:Nat->Int),(∀k∈l,canI L F ks i k=true)->i<=L->(∀j,i<=j->j<=L->Way L F ks j L (A j))->Way L F ks i L (behindIn ks i A l i):=by
 intro l
 induction l with
 |nil=>
  intro A _ hi h
  exact h i (Nat.le_refl _) hi
 |cons k l ih=>
  intro A hl hi h
  obtain⟨x,hx,hc,hd⟩:=canI_at (hl k (by simp))
  have hb:=hk.bd hx
  have hle:=(canB_iff.1 hc).1
  refine ih (relB A i _) (λk' hk'=>hl k' (by simp[hk'])) hi (λj hj hjL=>?_)
  rw[hd]
  unfold relB upd
  split
  ·rename_i e
   subst e
   rcases mx_or (A j) (A (j+x.w.toNat)+x.p)with h1|h1
   ·rw[h1];exact h j hj hjL
   ·rw[h1,Int.add_comm]
    exact .sheet j L k x _ hx hc (h _ (by omega) (by omega))
  ·exact h j hj hjL
structure FromIn(L:Nat)(F:Nat->Int)(ks:List Kd)(n:Nat)(Bh:Nat->Int):Prop where
 zero:Bh L=0
 waste:∀i,i<L->L<=i+n->Bh (i+1)<=Bh i
 sheet:∀(i k:Nat)(x:Kd),L<=i+n->ks[k]? =some x->canB L F x i=true->Bh (i+x.w.toNat)+x.p<=Bh i
 way:∀j,j<=L->L<=j+n->Way L F ks j L (Bh j)
theorem behindAt_in(hk:KOk ks)(n:Nat)(hn:n<=L):FromIn L F ks n (behindAt L F ks n):=by
 induction n with
 |zero=>exact⟨rfl,λi h1 h2=>by omega,λi k x h1 hx hc=>by have h2:=(canB_iff.1 hc).1;have h3:=hk.bd hx;omega,λj h1 h2=>by
   obtain rfl:j=L:=by omega
   exact .nil _⟩
 |succ n ih=>
  have h:=ih (by omega)
  obtain⟨A,hA⟩:∃A,behindAt L F ks n=A:=⟨_,rfl⟩
  rw[hA]at h
  show FromIn L F ks (n+1) (behindIn ks (L-1-n) (upd (behindAt L F ks n) (L-1-n) (behindAt L F ks n (L-1-n+1))) _)
  rw[hA]
  obtain⟨m,hm⟩:∃m,L-1-n=m:=⟨_,rfl⟩
  rw[hm]
  obtain⟨l,hl⟩:∃l,(List.range ks.length).filter (canI L F ks m)=l:=⟨_,rfl⟩
  rw[hl]
  have hlc:∀k∈l,canI L F ks m k=true:=λk hm'=>by rw[<-hl]at hm';simpa using(List.mem_filter.1 hm').2
  obtain⟨A1,hA1⟩:∃A1,upd A m (A (m+1))=A1:=⟨_,rfl⟩
  rw[hA1]
  have e1:∀j,j≠m->A1 j=A j:=λj hj=>by rw[<-hA1];unfold upd;rw[if_neg hj]
  have e2:A1 m=A (m+1):=by rw[<-hA1];unfold upd;rw[if_pos rfl]
  have old:=λj(hj:j≠m)=>behindIn_old (ks:=ks) m l A1 j hj
  have mono:=λj=>behindIn_mono (ks:=ks) m l A1 j
  refine⟨?_,?_,?_,?_⟩
  ·rw[old L (by omega),e1 L (by omega)];exact h.zero
  ·intro i hi hin
   by_cases e:i=m
   ·rw[e,old (m+1) (by omega),e1 (m+1) (by omega)]
    have:=mono m
    omega
   ·rw[old i e,e1 i e,old (i+1) (by omega),e1 (i+1) (by omega)]
    exact h.waste i hi (by omega)
  ·intro i k x hi hx hc
   have hb:=hk.bd hx
   have hle:=(canB_iff.1 hc).1
   by_cases e:i=m
   ·subst e
    have hmm:k∈l:=by
     rw[<-hl,List.mem_filter]
     refine⟨List.mem_range.2 (List.getElem?_eq_some_iff.1 hx).1,?_⟩
     unfold canI;rw[hx];exact hc
    have h5:=behindIn_has (L:=L) (F:=F) hk i l A1 hlc k hmm
    rw[show ks.getD k ⟨0,0,0⟩=x from by simp[List.getD,hx]]at h5
    rw[old (i+x.w.toNat) (by omega)]
    exact h5
   ·rw[old i e,e1 i e,old (i+x.w.toNat) (by omega),e1 (i+x.w.toNat) (by omega)]
    exact h.sheet i k x (by omega) hx hc
  ·intro j hj hjn
   by_cases e:j=m
   ·subst e
    refine behindIn_way (L:=L) (F:=F) hk j l A1 hlc hj (λj' h1 h2=>?_)
    by_cases e':j'=j
    ·subst e'
     rw[e2]
     exact .waste j' L _ (by omega) (h.way (j'+1) (by omega) (by omega))
    ·rw[e1 j' e']
     exact h.way j' h2 (by omega)
   ·rw[old j e,e1 j e]
    exact h.way j hj (by omega)
theorem behind_from(hk:KOk ks):From L F ks (behindAt L F ks L):=by
 have h:=behindAt_in (L:=L) (F:=F) hk L (Nat.le_refl _)
 exact⟨h.zero,λi hi=>h.waste i hi (by omega),λi k x hx hc=>h.sheet i k x (by omega) hx hc,λj hj=>h.way j hj (by omega)⟩
end
end Go.Proofs.YtlclnbhjjdcnkaaGreatDoor.C
namespace Go.Proofs.YtlclnbhjjdcnkaaGreatDoor.C
open Go.RowKit Go.Shelf
attribute [local go_sem] Oper.semAt_some
theorem info_long:(Tryz.prog.info? 2).map (λi=>(i.zero,i.size,i.bytes))=some (some (.int .i64 0),1,8):=by kernel_rfl
end Go.Proofs.YtlclnbhjjdcnkaaGreatDoor.C
