/- Plain laws: counts, ways from place to place, prices that cover, the counts and worths of the document. -/
import Derived.Test.YtednconodjeniaaGreatCNew
namespace Go.Proofs.YtednconodjeniaaGreat.C
open Go.RowKit
def manyIn(ks:List Kd)(i:Nat)(Bh:Nat->Int)(M:Nat->Int):List Nat->Nat->Int
 |[]=>M
 |k::l=>manyIn ks i Bh (if(ks.getD k ⟨0,0,0⟩).p+Bh (i+(ks.getD k ⟨0,0,0⟩).w.toNat)=Bh i then upd M i (M i+M (i+(ks.getD k ⟨0,0,0⟩).w.toNat))else M) l
theorem manyIn_snoc(ks:List Kd)(i:Nat)(Bh M:Nat->Int)(l:List Nat)(k:Nat):manyIn ks i Bh M (l++[k])=
 if(ks.getD k ⟨0,0,0⟩).p+Bh (i+(ks.getD k ⟨0,0,0⟩).w.toNat)=Bh i then upd (manyIn ks i Bh M l) i (manyIn ks i Bh M l i+manyIn ks i Bh M l (i+(ks.getD k ⟨0,0,0⟩).w.toNat))else manyIn ks i Bh M l:=by
 induction l generalizing M with
 |nil=>rfl
 |cons a l ih=>exact ih _
def manyAt(L:Nat)(F:Nat->Int)(ks:List Kd)(Bh:Nat->Int):Nat->Nat->Int
 |0=>upd (λ_=>0) L 1
 |k+1=>manyIn ks (L-1-k) Bh (if Bh (L-1-k)=Bh (L-1-k+1)then upd (manyAt L F ks Bh k) (L-1-k) (manyAt L F ks Bh k (L-1-k+1))else manyAt L F ks Bh k) ((List.range ks.length).filter (canI L F ks (L-1-k)))
structure ManyOk(L k:Nat)(M:Nat->Int):Prop where
 lo:∀j,0<=M j
 hi:∀j,j<=L->L<=j+k->M j<=6^(L-j)
 no:∀j,j+k<L->M j=0
theorem pow6_pos(n:Nat):(1:Int)<=6^n:=by
 induction n with
 |zero=>simp
 |succ n ih=>rw[Int.pow_succ];omega
theorem pow6_mono{a b:Nat}(h:a<=b):(6:Int)^a<=6^b:=by
 obtain⟨d,rfl⟩:=Nat.exists_eq_add_of_le h
 induction d with
 |zero=>simp
 |succ d ih=>
  have:=ih (by omega)
  rw[<-Nat.add_assoc,Int.pow_succ]
  have h2:=pow6_pos (a+d)
  omega
structure ManyIn(L i t:Nat)(ws:Bool)(M:Nat->Int):Prop where
 lo:∀j,0<=M j
 hi:∀j,i<j->j<=L->M j<=6^(L-j)
 at_:if ws then M i<=6^(L-i-1)+t*6^(L-i-2)/\(t=0\/i+2<=L)else M i<=t*6^(L-i-1)
 no:∀j,j<i->M j=0
theorem ManyIn.final{L i t:Nat}{ws:Bool}{M:Nat->Int}(h:ManyIn L i t ws M)(ht:t<=6)(hi:i<L):M i<=6^(L-i):=by
 have h1:=h.at_
 have e1:L-i=(L-i-1)+1:=by omega
 have p1:=pow6_pos (L-i-1)
 cases ws with
 |false=>
  simp only[Bool.false_eq_true,if_false]at h1
  rw[e1,Int.pow_succ]
  have:(t:Int)*6^(L-i-1)<=6*6^(L-i-1):=Int.mul_le_mul_of_nonneg_right (by omega) (by omega)
  omega
 |true=>
  simp only[if_true]at h1
  rcases h1 with⟨h1,h2|h2⟩
  ·subst h2
   rw[e1,Int.pow_succ]
   simp at h1
   omega
  ·have e2:L-i-1=(L-i-2)+1:=by omega
   have p2:=pow6_pos (L-i-2)
   rw[e1,Int.pow_succ]
   have h3:(t:Int)*6^(L-i-2)<=6*6^(L-i-2):=Int.mul_le_mul_of_nonneg_right (by omega) (by omega)
   have h4:(6:Int)^(L-i-1)=6^(L-i-2)*6:=by rw[e2,Int.pow_succ]
   omega
theorem ManyIn.step{L i t:Nat}{ws:Bool}{M Bh:Nat->Int}(h:ManyIn L i t ws M)(hws:ws=decide (Bh i=Bh (i+1))){wd:Nat}{p:Int}(hw:1<=wd)(hp:1<=p)(hl:i+wd<=L)(htie:p+Bh (i+wd)=Bh i):
 ManyIn L i (t+1) ws (upd M i (M i+M (i+wd))):=by
 have h1:=h.at_
 have hlo:=h.lo i
 have hlo2:=h.lo (i+wd)
 have hhi:=h.hi (i+wd) (by omega) hl
 refine⟨λj=>?_,λj hj hjL=>?_,?_,λj hj=>?_⟩
 ·unfold upd;split
  ·omega
  ·exact h.lo j
 ·unfold upd;rw[if_neg (by omega)];exact h.hi j hj hjL
 ·have hu:upd M i (M i+M (i+wd)) i=M i+M (i+wd):=by simp[upd]
  rw[hu]
  cases ws with
  |false=>
   simp only[Bool.false_eq_true,if_false]at h1 ⊢
   have hm:=pow6_mono (show L-(i+wd)<=L-i-1 from by omega)
   have:((t+1:Nat):Int)*6^(L-i-1)=t*6^(L-i-1)+6^(L-i-1):=by push_cast;rw[Int.add_mul];omega
   omega
  |true=>
   simp only[if_true]at h1 ⊢
   have hbe:Bh i=Bh (i+1):=by simpa using hws.symm
   have hw2:wd≠1:=by rintro rfl;omega
   have hm:=pow6_mono (show L-(i+wd)<=L-i-2 from by omega)
   have:((t+1:Nat):Int)*6^(L-i-2)=t*6^(L-i-2)+6^(L-i-2):=by push_cast;rw[Int.add_mul];omega
   exact⟨by omega,.inr (by omega)⟩
 ·unfold upd;rw[if_neg (by omega)];exact h.no j hj
def ManyLe(L i t:Nat)(ws:Bool)(M:Nat->Int):Prop:=∃t',t'<=t/\ManyIn L i t' ws M
theorem manyAt_step{L i:Nat}{F:Nat->Int}{ks:List Kd}(hk:KOk ks){Bh:Nat->Int}{ws:Bool}(hws:ws=decide (Bh i=Bh (i+1))):∀(l:List Nat){M:Nat->Int}{t:Nat},ManyLe L i t ws M->(∀k∈l,canI L F ks i k=true)->ManyLe L i (t+l.length) ws (manyIn ks i Bh M l):=by
 intro l
 induction l with
 |nil=>exactλh _=>h
 |cons k l ih=>
  intro M t h hl
  have hc:=hl k (by simp)
  unfold canI at hc
  cases hx:ks[k]? with
  |none=>rw[hx]at hc;cases hc
  |some x=>
   rw[hx]at hc
   have hbd:=hk.bd hx
   have hle:=(canB_iff.1 hc).1
   obtain⟨wd,hwd⟩:∃wd:Nat,x.w=wd:=⟨x.w.toNat,by omega⟩
   have hg:ks.getD k ⟨0,0,0⟩=x:=by simp[List.getD,hx]
   simp only[manyIn,hg,hwd,Int.toNat_natCast]
   have hlen:t+(k::l).length=(t+1)+l.length:=by simp;omega
   rw[hlen]
   refine ih ?_ (λj hj=>hl j (by simp[hj]))
   obtain⟨t',ht',hm⟩:=h
   split
   ·rename_i htie
    exact⟨t'+1,by omega,hm.step hws (by omega) (by omega) (by omega) htie⟩
   ·exact⟨t',by omega,hm⟩
theorem manyAt_start{L k:Nat}(hk:k<L){M Bh:Nat->Int}(h:ManyOk L k M):ManyIn L (L-1-k) 0 (decide (Bh (L-1-k)=Bh (L-1-k+1))) (if Bh (L-1-k)=Bh (L-1-k+1)then upd M (L-1-k) (M (L-1-k+1))else M):=by
 by_cases hc:Bh (L-1-k)=Bh (L-1-k+1)
 ·rw[if_pos hc,decide_eq_true hc]
  have h1:=h.lo (L-1-k+1)
  have h2:=h.hi (L-1-k+1) (by omega) (by omega)
  refine⟨λj=>?_,λj hj hjL=>?_,?_,λj hj=>?_⟩
  ·unfold upd;split
   ·omega
   ·exact h.lo j
  ·unfold upd;rw[if_neg (by omega)];exact h.hi j hjL (by omega)
  ·simp only[upd,if_true]
   refine⟨?_,.inl trivial⟩
   rw[show L-(L-1-k+1)=L-(L-1-k)-1 from by omega]at h2
   simpa using h2
  ·unfold upd;rw[if_neg (by omega)];exact h.no j (by omega)
 ·rw[if_neg hc,decide_eq_false hc]
  refine⟨h.lo,λj hj hjL=>h.hi j hjL (by omega),?_,λj hj=>h.no j (by omega)⟩
  simp only[Bool.false_eq_true,if_false]
  rw[h.no (L-1-k) (by omega)]
  simp
theorem manyAt_ok{L:Nat}{F:Nat->Int}{ks:List Kd}(hk:KOk ks)(Bh:Nat->Int)(k:Nat)(hkL:k<=L):ManyOk L k (manyAt L F ks Bh k):=by
 induction k with
 |zero=>
  refine⟨λj=>?_,λj hj hj2=>?_,λj hj=>?_⟩
  ·simp only[manyAt,upd];split<;>omega
  ·have:j=L:=by omega
   subst this;simp[manyAt,upd]
  ·simp only[manyAt,upd];rw[if_neg (by omega)]
 |succ k ih=>
  have ih:=ih (by omega)
  have hs:=manyAt_start (Bh:=Bh) (by omega) ih
  have hm:=manyAt_step (F:=F) hk (Bh:=Bh) rfl ((List.range ks.length).filter (canI L F ks (L-1-k))) ⟨0,Nat.le_refl _,hs⟩ (λj hj=>by simpa using(List.mem_filter.1 hj).2)
  obtain⟨t,ht,hm⟩:=hm
  have ht6:t<=6:=by
   have:=List.length_filter_le (canI L F ks (L-1-k)) (List.range ks.length)
   simp only[List.length_range]at this
   have:=hk.2.1
   omega
  have hf:=hm.final ht6 (by omega)
  unfold manyAt
  refine⟨hm.lo,λj hj hj2=>?_,λj hj=>hm.no j (by omega)⟩
  by_cases e:j=L-1-k
  ·subst e;exact hf
  ·exact hm.hi j (by omega) hj
theorem ManyIn.big{L i t:Nat}{ws:Bool}{M:Nat->Int}(h:ManyIn L i t ws M)(ht:t<=6)(hi:i<L)(hL:L<=24)(j:Nat)(hj:j<=L):0<=M j/\M j<=4738381338321616896:=by
 refine⟨h.lo j,?_⟩
 have h24:(6:Int)^24=4738381338321616896:=by decide
 have hm:=pow6_mono (show L-j<=24 from by omega)
 rw[h24]at hm
 by_cases e:j=i
 ·subst e;have:=h.final ht hi;omega
 ·by_cases e2:i<j
  ·have:=h.hi j e2 hj;omega
  ·have:=h.no j (by omega);omega
theorem ManyOk.big{L k:Nat}{M:Nat->Int}(h:ManyOk L k M)(hL:L<=24)(j:Nat)(hj:j<=L):0<=M j/\M j<=4738381338321616896:=by
 refine⟨h.lo j,?_⟩
 have h24:(6:Int)^24=4738381338321616896:=by decide
 have hm:=pow6_mono (show L-j<=24 from by omega)
 rw[h24]at hm
 by_cases e:L<=j+k
 ·have:=h.hi j hj e;omega
 ·have:=h.no j (by omega);omega
inductive Way(L:Nat)(F:Nat->Int)(ks:List Kd):Nat->Nat->Int->Prop
 |nil (i:Nat):Way L F ks i i 0
 |waste (i e:Nat) (v:Int):i+1<=L->Way L F ks (i+1) e v->Way L F ks i e v
 |sheet (i e k:Nat) (x:Kd) (v:Int):ks[k]? =some x->canB L F x i=true->Way L F ks (i+x.w.toNat) e v->Way L F ks i e (x.p+v)
section
variable{L:Nat}{F:Nat->Int}{ks:List Kd}
theorem Way.trans{i j e:Nat}{u v:Int}(h:Way L F ks i j u)(k:Way L F ks j e v):Way L F ks i e (u+v):=by
 induction h with
 |nil i=>simpa using k
 |waste i e' v' hl _ ih=>exact .waste i e _ hl (ih k)
 |sheet i e' kk x v' hx hc _ ih=>rw[Int.add_assoc];exact .sheet i e kk x _ hx hc (ih k)
theorem Way.one{i k:Nat}{x:Kd}(hx:ks[k]? =some x) (hc:canB L F x i=true):Way L F ks i (i+x.w.toNat) x.p:=by
 have:=Way.sheet (L:=L) (F:=F) i _ k x 0 hx hc (.nil _)
 simpa using this
structure UpTo(L:Nat)(F:Nat->Int)(ks:List Kd)(A:Nat->Int):Prop where
 zero:A 0=0
 waste:∀i,i<L->A i<=A (i+1)
 sheet:∀(i k:Nat)(x:Kd),ks[k]? =some x->canB L F x i=true->A i+x.p<=A (i+x.w.toNat)
 way:∀j,j<=L->Way L F ks 0 j (A j)
structure From(L:Nat)(F:Nat->Int)(ks:List Kd)(Bh:Nat->Int):Prop where
 zero:Bh L=0
 waste:∀i,i<L->Bh (i+1)<=Bh i
 sheet:∀(i k:Nat)(x:Kd),ks[k]? =some x->canB L F x i=true->Bh (i+x.w.toNat)+x.p<=Bh i
 way:∀j,j<=L->Way L F ks j L (Bh j)
theorem UpTo.le{A:Nat->Int}(h:UpTo L F ks A){i j:Nat}{v:Int}(hw:Way L F ks i j v):A i+v<=A j:=by
 induction hw with
 |nil i=>omega
 |waste i e v hl _ ih=>have:=h.waste i (by omega);omega
 |sheet i e k x v hx hc _ ih=>have:=h.sheet i k x hx hc;omega
theorem From.le{Bh:Nat->Int}(h:From L F ks Bh){i j:Nat}{v:Int}(hw:Way L F ks i j v):Bh j+v<=Bh i:=by
 induction hw with
 |nil i=>omega
 |waste i e v hl _ ih=>have:=h.waste i (by omega);omega
 |sheet i e k x v hx hc _ ih=>have:=h.sheet i k x hx hc;omega
theorem worth_same{A Bh:Nat->Int}(h:UpTo L F ks A)(k:From L F ks Bh):A L=Bh 0:=by
 have h1:=h.le (k.way 0 (by omega))
 have h2:=k.le (h.way L (Nat.le_refl _))
 have h3:=h.zero
 have h4:=k.zero
 omega
theorem mx_le_left(a b:Int):a<=mx a b:=by unfold mx;split<;>omega
theorem mx_le_right(a b:Int):b<=mx a b:=by unfold mx;split<;>omega
theorem mx_or(a b:Int):mx a b=a\/mx a b=b:=by unfold mx;split<;>simp
theorem canI_at{i k:Nat}(h:canI L F ks i k=true):∃x,ks[k]? =some x/\canB L F x i=true/\ks.getD k ⟨0,0,0⟩=x:=by
 unfold canI at h
 cases hx:ks[k]? with
 |none=>rw[hx]at h;cases h
 |some x=>rw[hx]at h;exact⟨x,rfl,h,by simp[List.getD,hx]⟩
theorem aheadIn_mono(i:Nat):∀(l:List Nat)(A:Nat->Int)(j:Nat),A j<=aheadIn ks i A l j:=by
 intro l
 induction l with
 |nil=>intro A j;exact Int.le_refl _
 |cons k l ih=>
  intro A j
  refine Int.le_trans ?_ (ih _ j)
  unfold relA upd
  split
  ·rename_i e;rw[e];exact mx_le_left _ _
  ·exact Int.le_refl _
theorem aheadIn_old(hk:KOk ks)(i:Nat):∀(l:List Nat)(A:Nat->Int)(j:Nat),(∀k∈l,canI L F ks i k=true)->j<=i->aheadIn ks i A l j=A j:=by
 intro l
 induction l with
 |nil=>intro A j _ _;rfl
 |cons k l ih=>
  intro A j hl hj
  show aheadIn ks i (relA A i _) l j=A j
  rw[ih _ j (λk' hk'=>hl k' (by simp[hk'])) hj]
  obtain⟨x,hx,_,hd⟩:=canI_at (hl k (by simp))
  have hb:=hk.bd hx
  rw[hd]
  unfold relA upd
  rw[if_neg (by omega)]
theorem aheadIn_has(hk:KOk ks)(i:Nat):∀(l:List Nat)(A:Nat->Int),(∀k∈l,canI L F ks i k=true)->∀k∈l,A i+(ks.getD k ⟨0,0,0⟩).p<=aheadIn ks i A l (i+(ks.getD k ⟨0,0,0⟩).w.toNat):=by
 intro l
 induction l with
 |nil=>intro A _ k hm;simp at hm
 |cons k l ih=>
  intro A hl k' hm
  have hl':∀k∈l,canI L F ks i k=true:=λk' hk'=>hl k' (by simp[hk'])
  have hold:relA A i (ks.getD k ⟨0,0,0⟩) i=A i:=by
   obtain⟨x,hx,_,hd⟩:=canI_at (hl k (by simp))
   have hb:=hk.bd hx
   rw[hd]
   unfold relA upd
   rw[if_neg (by omega)]
  rcases List.mem_cons.1 hm with rfl|hm
  ·refine Int.le_trans ?_ (aheadIn_mono i l _ _)
   unfold relA upd
   rw[if_pos rfl]
   exact mx_le_right _ _
  ·have:=ih (relA A i (ks.getD k ⟨0,0,0⟩)) hl' k' hm
   rw[hold]at this
   exact this
theorem aheadIn_way(i:Nat):∀(l:List Nat)(A:Nat->Int),(∀k∈l,canI L F ks i k=true)->(∀j,Way L F ks 0 i (A i)/\(Way L F ks 0 j (A j)\/A j=0/\i<j))->(∀j,Way L F ks 0 j (aheadIn ks i A l j)\/aheadIn ks i A l j=0/\i<j):=by
 intro l
 induction l with
 |nil=>intro A _ h j;exact(h j).2
 |cons k l ih=>
  intro A hl h
  obtain⟨x,hx,hc,hd⟩:=canI_at (hl k (by simp))
  show∀j,Way L F ks 0 j (aheadIn ks i (relA A i _) l j)\/aheadIn ks i (relA A i _) l j=0/\i<j
  have hstep:∀j,Way L F ks 0 j (relA A i (ks.getD k ⟨0,0,0⟩) j)\/relA A i (ks.getD k ⟨0,0,0⟩) j=0/\i<j:=by
   intro j
   rw[hd]
   unfold relA upd
   split
   ·rename_i e
    rcases mx_or (A (i+x.w.toNat)) (A i+x.p)with h1|h1
    ·rw[h1,e];exact(h _).2
    ·rw[h1,e];exact .inl ((h 0).1.trans (.one hx hc))
   ·exact(h j).2
  refine ih _ (λk' hk'=>hl k' (by simp[hk'])) (λj=>⟨?_,hstep j⟩)
  rcases hstep i with h1|⟨_,h2⟩
  ·exact h1
  ·omega
structure UpIn(L:Nat)(F:Nat->Int)(ks:List Kd)(n:Nat)(A:Nat->Int):Prop where
 zero:A 0=0
 waste:∀i,i<n->A i<=A (i+1)
 sheet:∀(i k:Nat)(x:Kd),i<n->ks[k]? =some x->canB L F x i=true->A i+x.p<=A (i+x.w.toNat)
 way:∀j,Way L F ks 0 j (A j)\/A j=0/\n<j
theorem aheadAt_in(hk:KOk ks)(n:Nat)(hn:n<=L):UpIn L F ks n (aheadAt L F ks n):=by
 induction n with
 |zero=>exact⟨rfl,by omega,by omega,λj=>by
   cases j with
   |zero=>exact .inl (.nil 0)
   |succ j=>exact .inr ⟨rfl,by omega⟩⟩
 |succ n ih=>
  have h:=ih (by omega)
  obtain⟨A,hA⟩:∃A,aheadAt L F ks n=A:=⟨_,rfl⟩
  rw[hA]at h
  show UpIn L F ks (n+1) (aheadIn ks n (upd (aheadAt L F ks n) (n+1) (mx (aheadAt L F ks n (n+1)) (aheadAt L F ks n n))) _)
  rw[hA]
  obtain⟨l,hl⟩:∃l,(List.range ks.length).filter (canI L F ks n)=l:=⟨_,rfl⟩
  rw[hl]
  have hlc:∀k∈l,canI L F ks n k=true:=λk hm=>by rw[<-hl]at hm;simpa using(List.mem_filter.1 hm).2
  obtain⟨A1,hA1⟩:∃A1,upd A (n+1) (mx (A (n+1)) (A n))=A1:=⟨_,rfl⟩
  rw[hA1]
  have e1:∀j,j≠n+1->A1 j=A j:=λj hj=>by rw[<-hA1];unfold upd;rw[if_neg hj]
  have e2:A1 (n+1)=mx (A (n+1)) (A n):=by rw[<-hA1];unfold upd;rw[if_pos rfl]
  have e3:∀j,A j<=A1 j:=λj=>by
   by_cases e:j=n+1
   ·rw[e,e2];exact mx_le_left _ _
   ·rw[e1 j e];exact Int.le_refl _
  have old:=λj(hj:j<=n)=>aheadIn_old (L:=L) (F:=F) hk n l A1 j hlc hj
  have mono:=λj=>aheadIn_mono (ks:=ks) n l A1 j
  have hwn:Way L F ks 0 n (A n):=by
   rcases h.way n with h1|⟨_,h1⟩
   ·exact h1
   ·omega
  have wn1:Way L F ks n (n+1) 0:=.waste n _ 0 (by omega) (.nil _)
  refine⟨?_,?_,?_,?_⟩
  ·rw[old 0 (by omega),e1 0 (by omega)];exact h.zero
  ·intro i hi
   by_cases e:i=n
   ·subst e
    rw[old i (by omega),e1 i (by omega)]
    have:=mono (i+1)
    have:=mx_le_right (A (i+1)) (A i)
    omega
   ·rw[old i (by omega),e1 i (by omega),old (i+1) (by omega),e1 (i+1) (by omega)]
    exact h.waste i (by omega)
  ·intro i k x hi hx hc
   by_cases e:i=n
   ·subst e
    rw[old i (by omega)]
    have hm:k∈l:=by
     rw[<-hl,List.mem_filter]
     refine⟨List.mem_range.2 (List.getElem?_eq_some_iff.1 hx).1,?_⟩
     unfold canI;rw[hx];exact hc
    have:=aheadIn_has (L:=L) (F:=F) hk i l A1 hlc k hm
    rwa[show ks.getD k ⟨0,0,0⟩=x from by simp[List.getD,hx]]at this
   ·rw[old i (by omega),e1 i (by omega)]
    have h1:=h.sheet i k x (by omega) hx hc
    have h2:=mono (i+x.w.toNat)
    have h3:=e3 (i+x.w.toNat)
    omega
  ·have hst:∀j,Way L F ks 0 j (A1 j)\/A1 j=0/\n+1<j:=by
    intro j
    by_cases e:j=n+1
    ·rw[e,e2]
     rcases mx_or (A (n+1)) (A n)with h1|h1
     ·rw[h1]
      rcases h.way (n+1)with h2|⟨h2,_⟩
      ·exact .inl h2
      ·have h3:=mx_le_right (A (n+1)) (A n)
       rw[h1,h2]at h3
       have h4:0<=A n:=by
        have:=aheadAt_bd (L:=L) (F:=F) hk n n
        rw[hA]at this;exact this.1
       have h5:A n=0:=by omega
       have:=hwn.trans wn1
       rw[h5]at this
       rw[h2]
       exact .inl (by simpa using this)
     ·rw[h1]
      have:=hwn.trans wn1
      exact .inl (by simpa using this)
    ·rw[e1 j e]
     rcases h.way j with h1|⟨h1,h2⟩
     ·exact .inl h1
     ·exact .inr ⟨h1,by omega⟩
   intro j
   have hn1:Way L F ks 0 n (A1 n):=by rw[e1 n (by omega)];exact hwn
   have:=aheadIn_way (L:=L) (F:=F) n l A1 hlc (λj=>⟨hn1,by
    rcases hst j with h1|⟨h1,h2⟩
    ·exact .inl h1
    ·exact .inr ⟨h1,by omega⟩⟩) j
   rcases this with h1|⟨h1,h2⟩
   ·exact .inl h1
   ·by_cases e:j=n+1
    ·subst e
     rw[h1]
     have h3:=mono (n+1)
     rw[h1]at h3
     rcases hst (n+1)with h4|⟨_,h4⟩
     ·have h5:0<=A1 (n+1):=by
       rw[e2]
       have h6:=mx_le_right (A (n+1)) (A n)
       have:=aheadAt_bd (L:=L) (F:=F) hk n n
       rw[hA]at this
       omega
      have h6:A1 (n+1)=0:=by omega
      rw[h6]at h4
      exact .inl h4
     ·omega
    ·exact .inr ⟨h1,by omega⟩
theorem ahead_upto(hk:KOk ks):UpTo L F ks (aheadAt L F ks L):=by
 have h:=aheadAt_in (L:=L) (F:=F) hk L (Nat.le_refl _)
 refine⟨h.zero,h.waste,λi k x hx hc=>h.sheet i k x ?_ hx hc,λj hj=>?_⟩
 ·have h1:=(canB_iff.1 hc).1
  have h2:=hk.bd hx
  omega
 ·rcases h.way j with h1|⟨_,h1⟩
  ·exact h1
  ·omega
theorem behindIn_mono(i:Nat):∀(l:List Nat)(A:Nat->Int)(j:Nat),A j<=behindIn ks i A l j:=by
 intro l
 induction l with
 |nil=>intro A j;exact Int.le_refl _
 |cons k l ih=>
  intro A j
  refine Int.le_trans ?_ (ih _ j)
  unfold relB upd
  split
  ·rename_i e;rw[e];exact mx_le_left _ _
  ·exact Int.le_refl _
theorem behindIn_old(i:Nat):∀(l:List Nat)(A:Nat->Int)(j:Nat),j≠i->behindIn ks i A l j=A j:=by
 intro l
 induction l with
 |nil=>intro A j _;rfl
 |cons k l ih=>
  intro A j hj
  show behindIn ks i (relB A i _) l j=A j
  rw[ih _ j hj]
  unfold relB upd
  rw[if_neg hj]
theorem behindIn_has(hk:KOk ks)(i:Nat):∀(l:List Nat)(A:Nat->Int),(∀k∈l,canI L F ks i k=true)->∀k∈l,A (i+(ks.getD k ⟨0,0,0⟩).w.toNat)+(ks.getD k ⟨0,0,0⟩).p<=behindIn ks i A l i:=by
 intro l
 induction l with
 |nil=>intro A _ k hm;simp at hm
 |cons k l ih=>
  intro A hl k' hm
  have hl':∀k∈l,canI L F ks i k=true:=λk' hk'=>hl k' (by simp[hk'])
  rcases List.mem_cons.1 hm with rfl|hm
  ·refine Int.le_trans ?_ (behindIn_mono i l _ _)
   unfold relB upd
   rw[if_pos rfl]
   exact mx_le_right _ _
  ·have:=ih (relB A i (ks.getD k ⟨0,0,0⟩)) hl' k' hm
   obtain⟨x,hx,_,hd⟩:=canI_at (hl' k' hm)
   have hb:=hk.bd hx
   have e:relB A i (ks.getD k ⟨0,0,0⟩) (i+(ks.getD k' ⟨0,0,0⟩).w.toNat)=A (i+(ks.getD k' ⟨0,0,0⟩).w.toNat):=by
    rw[hd]
    unfold relB upd
    rw[if_neg (by omega)]
   rw[e]at this
   exact this
theorem behindIn_way(hk:KOk ks)(i:Nat):∀(l:List Nat)(A:Nat->Int),(∀k∈l,canI L F ks i k=true)->i<=L->(∀j,i<=j->j<=L->Way L F ks j L (A j))->Way L F ks i L (behindIn ks i A l i):=by
 intro l
 induction l with
 |nil=>
  intro A _ hi h
  exact h i (Nat.le_refl _) hi
 |cons k l ih=>
  intro A hl hi h
  obtain⟨x,hx,hc,hd⟩:=canI_at (hl k (by simp))
  have hb:=hk.bd hx
  have hle:=(canB_iff.1 hc).1
  refine ih (relB A i _) (λk' hk'=>hl k' (by simp[hk'])) hi (λj hj hjL=>?_)
  rw[hd]
  unfold relB upd
  split
  ·rename_i e
   subst e
   rcases mx_or (A j) (A (j+x.w.toNat)+x.p)with h1|h1
   ·rw[h1];exact h j hj hjL
   ·rw[h1,Int.add_comm]
    exact .sheet j L k x _ hx hc (h _ (by omega) (by omega))
  ·exact h j hj hjL
structure FromIn(L:Nat)(F:Nat->Int)(ks:List Kd)(n:Nat)(Bh:Nat->Int):Prop where
 zero:Bh L=0
 waste:∀i,i<L->L<=i+n->Bh (i+1)<=Bh i
 sheet:∀(i k:Nat)(x:Kd),L<=i+n->ks[k]? =some x->canB L F x i=true->Bh (i+x.w.toNat)+x.p<=Bh i
 way:∀j,j<=L->L<=j+n->Way L F ks j L (Bh j)
theorem behindAt_in(hk:KOk ks)(n:Nat)(hn:n<=L):FromIn L F ks n (behindAt L F ks n):=by
 induction n with
 |zero=>exact⟨rfl,λi h1 h2=>by omega,λi k x h1 hx hc=>by have h2:=(canB_iff.1 hc).1;have h3:=hk.bd hx;omega,λj h1 h2=>by
   obtain rfl:j=L:=by omega
   exact .nil _⟩
 |succ n ih=>
  have h:=ih (by omega)
  obtain⟨A,hA⟩:∃A,behindAt L F ks n=A:=⟨_,rfl⟩
  rw[hA]at h
  show FromIn L F ks (n+1) (behindIn ks (L-1-n) (upd (behindAt L F ks n) (L-1-n) (behindAt L F ks n (L-1-n+1))) _)
  rw[hA]
  obtain⟨m,hm⟩:∃m,L-1-n=m:=⟨_,rfl⟩
  rw[hm]
  obtain⟨l,hl⟩:∃l,(List.range ks.length).filter (canI L F ks m)=l:=⟨_,rfl⟩
  rw[hl]
  have hlc:∀k∈l,canI L F ks m k=true:=λk hm'=>by rw[<-hl]at hm';simpa using(List.mem_filter.1 hm').2
  obtain⟨A1,hA1⟩:∃A1,upd A m (A (m+1))=A1:=⟨_,rfl⟩
  rw[hA1]
  have e1:∀j,j≠m->A1 j=A j:=λj hj=>by rw[<-hA1];unfold upd;rw[if_neg hj]
  have e2:A1 m=A (m+1):=by rw[<-hA1];unfold upd;rw[if_pos rfl]
  have old:=λj(hj:j≠m)=>behindIn_old (ks:=ks) m l A1 j hj
  have mono:=λj=>behindIn_mono (ks:=ks) m l A1 j
  refine⟨?_,?_,?_,?_⟩
  ·rw[old L (by omega),e1 L (by omega)];exact h.zero
  ·intro i hi hin
   by_cases e:i=m
   ·rw[e,old (m+1) (by omega),e1 (m+1) (by omega)]
    have:=mono m
    omega
   ·rw[old i e,e1 i e,old (i+1) (by omega),e1 (i+1) (by omega)]
    exact h.waste i hi (by omega)
  ·intro i k x hi hx hc
   have hb:=hk.bd hx
   have hle:=(canB_iff.1 hc).1
   by_cases e:i=m
   ·subst e
    have hmm:k∈l:=by
     rw[<-hl,List.mem_filter]
     refine⟨List.mem_range.2 (List.getElem?_eq_some_iff.1 hx).1,?_⟩
     unfold canI;rw[hx];exact hc
    have h5:=behindIn_has (L:=L) (F:=F) hk i l A1 hlc k hmm
    rw[show ks.getD k ⟨0,0,0⟩=x from by simp[List.getD,hx]]at h5
    rw[old (i+x.w.toNat) (by omega)]
    exact h5
   ·rw[old i e,e1 i e,old (i+x.w.toNat) (by omega),e1 (i+x.w.toNat) (by omega)]
    exact h.sheet i k x (by omega) hx hc
  ·intro j hj hjn
   by_cases e:j=m
   ·subst e
    refine behindIn_way (L:=L) (F:=F) hk j l A1 hlc hj (λj' h1 h2=>?_)
    by_cases e':j'=j
    ·subst e'
     rw[e2]
     exact .waste j' L _ (by omega) (h.way (j'+1) (by omega) (by omega))
    ·rw[e1 j' e']
     exact h.way j' h2 (by omega)
   ·rw[old j e,e1 j e]
    exact h.way j hj (by omega)
theorem behind_from(hk:KOk ks):From L F ks (behindAt L F ks L):=by
 have h:=behindAt_in (L:=L) (F:=F) hk L (Nat.le_refl _)
 exact⟨h.zero,λi hi=>h.waste i hi (by omega),λi k x hx hc=>h.sheet i k x (by omega) hx hc,λj hj=>h.way j hj (by omega)⟩
theorem ahead_behind(hk:KOk ks):aheadAt L F ks L L=behindAt L F ks L 0:=worth_same (ahead_upto hk) (behind_from hk)
end
def psum(ps:List Int)(j:Nat):Int:=(ps.take j).sum
def outP(x:Int):Bool:=decide (x<0)||decide (24000<x)
theorem psum_zero(ps:List Int):psum ps 0=0:=rfl
theorem psum_succ{ps:List Int}{j:Nat}{x:Int}(h:ps[j]? =some x):psum ps (j+1)=psum ps j+x:=by
 unfold psum
 obtain⟨hj,rfl⟩:=List.getElem?_eq_some_iff.1 h
 rw[List.take_succ_eq_append_getElem hj,List.sum_append]
 simp
theorem psum_bd{ps:List Int}{j:Nat}(hj:j<=ps.length)(h:∀i x,i<j->ps[i]? =some x->outP x=false):0<=psum ps j/\psum ps j<=24000*j:=by
 induction j with
 |zero=>simp[psum]
 |succ j ih=>
  have h1:=ih (by omega) (λi x hi=>h i x (by omega))
  obtain⟨x,hx⟩:∃x,ps[j]? =some x:=⟨_,List.getElem?_eq_getElem (by omega)⟩
  rw[psum_succ hx]
  have h2:=h j x (by omega) hx
  simp only[outP,Bool.or_eq_false_iff,decide_eq_false_iff_not]at h2
  omega
theorem psum_mono{ps:List Int}{i j:Nat}(hij:i<=j)(hj:j<=ps.length)(h:∀i x,i<j->ps[i]? =some x->outP x=false):0<=psum ps j-psum ps i/\psum ps j-psum ps i<=24000*((j:Int)-i):=by
 obtain⟨d,rfl⟩:=Nat.exists_eq_add_of_le hij
 induction d with
 |zero=>simp
 |succ d ih=>
  have h1:=ih (by omega) (by omega) (λi x hi=>h i x (by omega))
  obtain⟨x,hx⟩:∃x,ps[i+d]? =some x:=⟨_,List.getElem?_eq_getElem (by omega)⟩
  rw[<-Nat.add_assoc,psum_succ hx]
  have h2:=h (i+d) x (by omega) hx
  simp only[outP,Bool.or_eq_false_iff,decide_eq_false_iff_not]at h2
  omega
def coverAt(L:Nat)(F:Nat->Int)(ks:List Kd)(S:Nat->Int)(fr k:Nat):Bool:=!canI L F ks fr k||decide ((ks.getD k ⟨0,0,0⟩).p<=S (fr+(ks.getD k ⟨0,0,0⟩).w.toNat)-S fr)
def coverB(L:Nat)(F:Nat->Int)(ks:List Kd)(S:Nat->Int):Bool:=(List.range L).all λfr=>(List.range ks.length).all λk=>coverAt L F ks S fr k
def pricesP(L:Nat)(F:Nat->Int)(ks:List Kd)(ps:List Int):Int×Int:=
 if ps.length≠L then(0,15)else if ps.any outP then(0,3)else if coverB L F ks (psum ps)then(psum ps L,0)else(0,14)
theorem pricesP_len{L:Nat}{F:Nat->Int}{ks:List Kd}{ps:List Int}(h:ps.length≠L):pricesP L F ks ps=(0,15):=by simp[pricesP,h]
theorem pricesP_out{L:Nat}{F:Nat->Int}{ks:List Kd}{ps:List Int}(h:ps.length=L){x:Int}(hx:x∈ps)(ho:outP x=true):pricesP L F ks ps=(0,3):=by
 have:ps.any outP=true:=List.any_eq_true.2 ⟨x,hx,ho⟩
 simp[pricesP,h,this]
theorem pricesP_cov{L:Nat}{F:Nat->Int}{ks:List Kd}{ps:List Int}(h:ps.length=L)(ho:ps.any outP=false):pricesP L F ks ps=if coverB L F ks (psum ps)then(psum ps L,0)else(0,14):=by simp[pricesP,h,ho]
theorem cover_no{L:Nat}{F:Nat->Int}{ks:List Kd}{S:Nat->Int}{fr k:Nat}(hf:fr<L)(hk:k<ks.length)(h:coverAt L F ks S fr k=false):coverB L F ks S=false:=by
 cases hc:coverB L F ks S with
 |false=>rfl
 |true=>
  have h1:=List.all_eq_true.1 hc fr (List.mem_range.2 hf)
  have h2:=List.all_eq_true.1 h1 k (List.mem_range.2 hk)
  rw[h]at h2;cases h2
theorem cover_yes{L:Nat}{F:Nat->Int}{ks:List Kd}{S:Nat->Int}(h:∀fr k,fr<L->k<ks.length->coverAt L F ks S fr k=true):coverB L F ks S=true:=
 List.all_eq_true.2 λfr hf=>List.all_eq_true.2 λk hk=>h fr k (List.mem_range.1 hf) (List.mem_range.1 hk)
theorem any_out{ps:List Int}(h:∀i x,i<ps.length->ps[i]? =some x->outP x=false):ps.any outP=false:=by
 cases hc:ps.any outP with
 |false=>rfl
 |true=>
  obtain⟨x,hx,ho⟩:=List.any_eq_true.1 hc
  obtain⟨i,hi⟩:=List.getElem?_of_mem hx
  rw[h i x (List.getElem?_eq_some_iff.1 hi).1 hi]at ho
  cases ho
def nK(ks:List Kd)(i:Nat)(A:Nat->Int)(k:Nat):Int:=(ks.getD k ⟨0,0,0⟩).p+A (i+(ks.getD k ⟨0,0,0⟩).w.toNat)
def refStep(ks:List Kd)(i:Nat)(r:(Nat->Int)×(Nat->Int))(k:Nat):(Nat->Int)×(Nat->Int):=
 if r.1 i<nK ks i r.1 k then(upd r.1 i (nK ks i r.1 k),upd (upd r.2 i 0) i (r.2 (i+(ks.getD k ⟨0,0,0⟩).w.toNat)))
 else if nK ks i r.1 k=r.1 i then(r.1,upd r.2 i (r.2 i+r.2 (i+(ks.getD k ⟨0,0,0⟩).w.toNat)))else r
def refIn(ks:List Kd)(i:Nat)(r:(Nat->Int)×(Nat->Int))(l:List Nat):(Nat->Int)×(Nat->Int):=l.foldl (refStep ks i) r
theorem refIn_snoc(ks:List Kd)(i:Nat)(r:(Nat->Int)×(Nat->Int))(l:List Nat)(k:Nat):refIn ks i r (l++[k])=refStep ks i (refIn ks i r l) k:=by simp[refIn]
def refStart(r:(Nat->Int)×(Nat->Int))(i:Nat):(Nat->Int)×(Nat->Int):=(upd r.1 i (r.1 (i+1)),upd r.2 i (r.2 (i+1)))
def refAt(L:Nat)(F:Nat->Int)(ks:List Kd):Nat->(Nat->Int)×(Nat->Int)
 |0=>(λ_=>0,upd (λ_=>0) L 1)
 |n+1=>refIn ks (L-1-n) (refStart (refAt L F ks n) (L-1-n)) ((List.range ks.length).filter (canI L F ks (L-1-n)))
def cntV(ks:List Kd)(i:Nat)(A M:Nat->Int)(l:List Nat)(v:Int):Int:=
 (if A (i+1)=v then M (i+1)else 0)+(l.map λk=>if nK ks i A k=v then M (i+(ks.getD k ⟨0,0,0⟩).w.toNat)else 0).sum
theorem cntV_snoc(ks:List Kd)(i:Nat)(A M:Nat->Int)(l:List Nat)(k:Nat)(v:Int):cntV ks i A M (l++[k]) v=cntV ks i A M l v+if nK ks i A k=v then M (i+(ks.getD k ⟨0,0,0⟩).w.toNat)else 0:=by
 simp[cntV,List.sum_append,Int.add_assoc]
theorem cntV_zero{ks:List Kd}{i:Nat}{A M:Nat->Int}{l:List Nat}{v:Int}(h0:A (i+1)≠v)(h:∀k∈l,nK ks i A k≠v):cntV ks i A M l v=0:=by
 unfold cntV
 rw[if_neg h0]
 induction l with
 |nil=>simp
 |cons k l ih=>
  have:=ih (λk' hk'=>h k' (by simp[hk']))
  simp only[List.map_cons,List.sum_cons,if_neg (h k (by simp))]
  omega
section
variable{L:Nat}{F:Nat->Int}{ks:List Kd}
structure RefOk(ks:List Kd)(i:Nat)(A0 M0:Nat->Int)(l:List Nat)(r:(Nat->Int)×(Nat->Int)):Prop where
 worth:r.1=behindIn ks i (upd A0 i (A0 (i+1))) l
 oldA:∀j,j≠i->r.1 j=A0 j
 oldM:∀j,j≠i->r.2 j=M0 j
 base:A0 (i+1)<=r.1 i
 top:∀k∈l,nK ks i A0 k<=r.1 i
 many:r.2 i=cntV ks i A0 M0 l (r.1 i)
theorem upd_self(A:Nat->Int)(i:Nat):upd A i (A i)=A:=by
 funext j;unfold upd;split
 ·rename_i e;rw[e]
 ·rfl
theorem upd_upd(A:Nat->Int)(i:Nat)(a b:Int):upd (upd A i a) i b=upd A i b:=by
 funext j;unfold upd;split<;>rfl
theorem RefOk.start(ks:List Kd)(i:Nat)(A0 M0:Nat->Int):RefOk ks i A0 M0 [] (refStart (A0,M0) i):=by
 refine⟨rfl,λj hj=>?_,λj hj=>?_,?_,by simp,?_⟩
 ·simp[refStart,upd,hj]
 ·simp[refStart,upd,hj]
 ·simp[refStart,upd]
 ·simp[refStart,upd,cntV]
theorem RefOk.step(hk:KOk ks){i:Nat}{A0 M0:Nat->Int}{l:List Nat}{r:(Nat->Int)×(Nat->Int)}(h:RefOk ks i A0 M0 l r){k:Nat}(hc:canI L F ks i k=true):RefOk ks i A0 M0 (l++[k]) (refStep ks i r k):=by
 obtain⟨x,hx,_,hd⟩:=canI_at hc
 have hb:=hk.bd hx
 have hne:i+x.w.toNat≠i:=by omega
 have hn:nK ks i r.1 k=nK ks i A0 k:=by unfold nK;rw[hd,h.oldA _ hne]
 have hnx:nK ks i A0 k=x.p+A0 (i+x.w.toNat):=by unfold nK;rw[hd]
 have hw:behindIn ks i (upd A0 i (A0 (i+1))) (l++[k])=relB r.1 i x:=by rw[behindIn_snoc,hd,h.worth]
 have hrel:relB r.1 i x=upd r.1 i (mx (r.1 i) (nK ks i A0 k)):=by
  unfold relB
  rw[h.oldA _ hne,hnx,Int.add_comm x.p]
 have hM:r.2 (i+x.w.toNat)=M0 (i+x.w.toNat):=h.oldM _ hne
 unfold refStep
 rw[hn]
 by_cases h1:r.1 i<nK ks i A0 k
 ·rw[if_pos h1]
  refine⟨?_,λj hj=>?_,λj hj=>?_,?_,λk' hk'=>?_,?_⟩
  ·show upd r.1 i _=_
   rw[hw,hrel]
   unfold mx
   rw[if_pos h1]
  ·show upd r.1 i _ j=_
   unfold upd;rw[if_neg hj];exact h.oldA j hj
  ·show upd (upd r.2 i 0) i _ j=_
   unfold upd;rw[if_neg hj,if_neg hj];exact h.oldM j hj
  ·show A0 (i+1)<=upd r.1 i _ i
   unfold upd;rw[if_pos rfl];have:=h.base;omega
  ·show nK ks i A0 k'<=upd r.1 i _ i
   unfold upd;rw[if_pos rfl]
   rcases List.mem_append.1 hk' with hk'|hk'
   ·have:=h.top k' hk';omega
   ·rw[List.mem_singleton.1 hk'];exact Int.le_refl _
  ·show upd (upd r.2 i 0) i _ i=cntV ks i A0 M0 (l++[k]) (upd r.1 i _ i)
   have e1:∀(A:Nat->Int)(v:Int),upd A i v i=v:=λA v=>by simp[upd]
   rw[e1,e1,hd,hM,cntV_snoc,cntV_zero (by have:=h.base;omega) (λk' hk'=>by have:=h.top k' hk';omega),if_pos rfl,hd]
   omega
 ·rw[if_neg h1]
  have hmx:mx (r.1 i) (nK ks i A0 k)=r.1 i:=by unfold mx;rw[if_neg h1]
  have hwr:r.1=behindIn ks i (upd A0 i (A0 (i+1))) (l++[k]):=by rw[hw,hrel,hmx,upd_self]
  have htop:∀k'∈l++[k],nK ks i A0 k'<=r.1 i:=λk' hk'=>by
   rcases List.mem_append.1 hk' with hk'|hk'
   ·exact h.top k' hk'
   ·rw[List.mem_singleton.1 hk'];omega
  by_cases h2:nK ks i A0 k=r.1 i
  ·rw[if_pos h2]
   refine⟨hwr,h.oldA,λj hj=>?_,h.base,htop,?_⟩
   ·show upd r.2 i _ j=_
    unfold upd;rw[if_neg hj];exact h.oldM j hj
   ·show upd r.2 i _ i=cntV ks i A0 M0 (l++[k]) (r.1 i)
    have e1:∀(A:Nat->Int)(v:Int),upd A i v i=v:=λA v=>by simp[upd]
    rw[e1,hd,hM,cntV_snoc,if_pos h2,hd,h.many]
  ·rw[if_neg h2]
   exact⟨hwr,h.oldA,h.oldM,h.base,htop,by rw[cntV_snoc,if_neg h2,h.many];omega⟩
theorem RefOk.all(hk:KOk ks){i:Nat}{A0 M0:Nat->Int}:∀(l:List Nat)(pre:List Nat)(r:(Nat->Int)×(Nat->Int)),RefOk ks i A0 M0 pre r->(∀k∈l,canI L F ks i k=true)->RefOk ks i A0 M0 (pre++l) (refIn ks i r l)
 |[],pre,r,h,_=>by simpa[refIn]using h
 |k::l,pre,r,h,hl=>by
  have:=RefOk.all hk l (pre++[k]) _ (h.step (L:=L) (F:=F) hk (hl k (by simp))) (λk' hk'=>hl k' (by simp[hk']))
  simpa[refIn]using this
theorem can_filter(i:Nat):∀k∈(List.range ks.length).filter (canI L F ks i),canI L F ks i k=true:=λk hm=>by simpa using(List.mem_filter.1 hm).2
theorem refAt_ok(hk:KOk ks)(n:Nat):RefOk ks (L-1-n) (refAt L F ks n).1 (refAt L F ks n).2 ((List.range ks.length).filter (canI L F ks (L-1-n))) (refAt L F ks (n+1)):=by
 have h:=RefOk.all (L:=L) (F:=F) hk ((List.range ks.length).filter (canI L F ks (L-1-n))) [] _ (RefOk.start ks (L-1-n) (refAt L F ks n).1 (refAt L F ks n).2) (can_filter (L-1-n))
 rw[List.nil_append]at h
 exact h
theorem refAt_worth(hk:KOk ks)(n:Nat):(refAt L F ks n).1=behindAt L F ks n:=by
 induction n with
 |zero=>rfl
 |succ n ih=>
  have h:=(refAt_ok (L:=L) (F:=F) hk n).worth
  rw[h,ih]
  rfl
theorem behindAt_stay(n m:Nat)(hn:n<=m)(hm:m<=L)(j:Nat)(hj:L<=j+n):behindAt L F ks m j=behindAt L F ks n j:=by
 obtain⟨d,rfl⟩:=Nat.exists_eq_add_of_le hn
 induction d with
 |zero=>rfl
 |succ d ih=>
  rw[<-ih (by omega) (by omega)]
  show behindIn ks (L-1-(n+d)) (upd (behindAt L F ks (n+d)) (L-1-(n+d)) (behindAt L F ks (n+d) (L-1-(n+d)+1))) ((List.range ks.length).filter (canI L F ks (L-1-(n+d)))) j=behindAt L F ks (n+d) j
  rw[behindIn_old _ _ _ _ (by omega)]
  unfold upd
  rw[if_neg (by omega)]
theorem manyIn_cnt(hk:KOk ks){i:Nat}{Bh M:Nat->Int}:∀(l:List Nat)(m:Int)(M':Nat->Int),M'=upd M i m->(∀k∈l,canI L F ks i k=true)->
 manyIn ks i Bh M' l=upd M i (m+(l.map λk=>if nK ks i Bh k=Bh i then M (i+(ks.getD k ⟨0,0,0⟩).w.toNat)else 0).sum)
 |[],m,M',e,_=>by simp[manyIn,e]
 |k::l,m,M',e,hl=>by
  subst e
  obtain⟨x,hx,_,hd⟩:=canI_at (hl k (by simp))
  have hb:=hk.bd hx
  have hne:i+x.w.toNat≠i:=by omega
  show manyIn ks i Bh (if _ then _ else _) l=_
  rw[hd]
  have e1:upd M i m i=m:=by simp[upd]
  have e2:upd M i m (i+x.w.toNat)=M (i+x.w.toNat):=by unfold upd;rw[if_neg hne]
  have hnk:nK ks i Bh k=x.p+Bh (i+x.w.toNat):=by unfold nK;rw[hd]
  simp only[List.map_cons,List.sum_cons]
  by_cases ht:x.p+Bh (i+x.w.toNat)=Bh i
  ·rw[if_pos ht,e1,e2,upd_upd,manyIn_cnt hk l (m+M (i+x.w.toNat)) _ rfl (λk' hk'=>hl k' (by simp[hk'])),if_pos (by rw[hnk];exact ht),hd,Int.add_assoc]
  ·rw[if_neg ht,manyIn_cnt hk l m _ rfl (λk' hk'=>hl k' (by simp[hk'])),if_neg (by rw[hnk];exact ht),Int.zero_add]
theorem refAt_many(hk:KOk ks)(n:Nat)(hn:n<=L):∀j,L<=j+n->(refAt L F ks n).2 j=manyAt L F ks (behindAt L F ks L) n j:=by
 induction n with
 |zero=>intro j _;rfl
 |succ n ih=>
  intro j hj
  have ih:=ih (by omega)
  have hR:=refAt_ok (L:=L) (F:=F) hk n
  have hMO:=manyAt_ok (L:=L) (F:=F) hk (behindAt L F ks L) n (by omega)
  obtain⟨Bh,hBh⟩:∃Bh,behindAt L F ks L=Bh:=⟨_,rfl⟩
  obtain⟨i,hi⟩:∃i,L-1-n=i:=⟨_,rfl⟩
  obtain⟨M,hM⟩:∃M,manyAt L F ks Bh n=M:=⟨_,rfl⟩
  have hA:∀j,L<=j+n->(refAt L F ks n).1 j=Bh j:=λj hj=>by rw[refAt_worth hk n,<-hBh,behindAt_stay n L (by omega) (Nat.le_refl _) j hj]
  have hAi:(refAt L F ks (n+1)).1 i=Bh i:=by rw[refAt_worth hk (n+1),<-hBh,behindAt_stay (n+1) L (by omega) (Nat.le_refl _) i (by omega)]
  show _=manyIn ks (L-1-n) (behindAt L F ks L) _ _ j
  rw[hBh]at ih hMO ⊢
  rw[hM]at ih hMO ⊢
  rw[hi]at hR ⊢
  have hMi:M i=0:=hMO.no i (by omega)
  have hcan:=can_filter (L:=L) (F:=F) (ks:=ks) i
  generalize (List.range ks.length).filter (canI L F ks i)=l at*
  have hst:(if Bh i=Bh (i+1)then upd M i (M (i+1))else M)=upd M i (if Bh i=Bh (i+1)then M (i+1)else 0):=by
   by_cases e:Bh i=Bh (i+1)
   ·rw[if_pos e,if_pos e]
   ·rw[if_neg e,if_neg e,<-hMi,upd_self]
  rw[hst,manyIn_cnt (L:=L) (F:=F) hk l _ _ rfl hcan]
  by_cases hji:j=i
  ·subst hji
   have e1:∀v,upd M j v j=v:=λv=>by simp[upd]
   rw[e1,hR.many,hAi]
   unfold cntV
   rw[hA (j+1) (by omega),ih (j+1) (by omega)]
   congr 1
   ·by_cases e:Bh j=Bh (j+1)
    ·rw[if_pos e,if_pos e.symm]
    ·rw[if_neg e,if_neg (λh=>e h.symm)]
   ·congr 1
    apply List.map_congr_left
    intro k hm
    obtain⟨x,hx,hc,hd⟩:=canI_at (hcan k hm)
    have hb:=hk.bd hx
    have hle:=(canB_iff.1 hc).1
    unfold nK
    rw[hd,hA _ (by omega),ih _ (by omega)]
  ·rw[hR.oldM j hji,ih j (by omega)]
   unfold upd
   rw[if_neg hji]
theorem ref_worth0(hk:KOk ks):(refAt L F ks L).1=behindAt L F ks L:=refAt_worth hk L
theorem ref_many0(hk:KOk ks):(refAt L F ks L).2 0=manyAt L F ks (behindAt L F ks L) L 0:=refAt_many hk L (Nat.le_refl _) 0 (by omega)
end
theorem sum_le{α:Type}(f:α->Int)(c:Int):∀l:List α,(∀x∈l,f x<=c)->(l.map f).sum<=l.length*c
 |[],_=>by simp
 |x::l,h=>by
  have h1:=sum_le f c l (λy hy=>h y (by simp[hy]))
  have h2:=h x (by simp)
  simp only[List.map_cons,List.sum_cons,List.length_cons]
  have:((l.length+1:Nat):Int)*c=l.length*c+c:=by push_cast;rw[Int.add_mul];omega
  omega
theorem sum_nn{α:Type}(f:α->Int):∀l:List α,(∀x∈l,0<=f x)->0<=(l.map f).sum
 |[],_=>by simp
 |x::l,h=>by
  have h1:=sum_nn f l (λy hy=>h y (by simp[hy]))
  have h2:=h x (by simp)
  simp only[List.map_cons,List.sum_cons]
  omega
theorem cntV_bd{L:Nat}{F:Nat->Int}{ks:List Kd}(hk:KOk ks){i:Nat}(hi:i<L){A M:Nat->Int}(hM:∀j,i<j->j<=L->0<=M j/\M j<=6^(L-j)){l:List Nat}(hl:∀k∈l,canI L F ks i k=true)(hlen:l.length<=6)(v:Int):
 0<=cntV ks i A M l v/\cntV ks i A M l v<=6^(L-i):=by
 have hm1:=hM (i+1) (by omega) (by omega)
 have e1:L-i=(L-i-1)+1:=by omega
 have p1:=pow6_pos (L-i-1)
 have hs0:0<=(l.map λk=>if nK ks i A k=v then M (i+(ks.getD k ⟨0,0,0⟩).w.toNat)else 0).sum:=by
  refine sum_nn _ l (λk hm=>?_)
  obtain⟨x,hx,hc,hd⟩:=canI_at (hl k hm)
  have hb:=hk.bd hx
  have hle:=(canB_iff.1 hc).1
  rw[hd]
  split
  ·exact(hM _ (by omega) (by omega)).1
  ·exact Int.le_refl _
 unfold cntV
 rw[show L-(i+1)=L-i-1 from by omega]at hm1
 by_cases hb0:A (i+1)=v
 ·rw[if_pos hb0]
  refine⟨by omega,?_⟩
  by_cases h2:i+2<=L
  ·have p2:=pow6_pos (L-i-2)
   have hs:=sum_le (λk=>if nK ks i A k=v then M (i+(ks.getD k ⟨0,0,0⟩).w.toNat)else 0) (6^(L-i-2)) l (λk hm=>by
    obtain⟨x,hx,hc,hd⟩:=canI_at (hl k hm)
    have hb:=hk.bd hx
    have hle:=(canB_iff.1 hc).1
    show(if nK ks i A k=v then M (i+(ks.getD k ⟨0,0,0⟩).w.toNat)else 0)<=_
    rw[hd]
    split
    ·rename_i hv
     have hw2:x.w≠1:=by
      intro e
      unfold nK at hv
      rw[hd,e]at hv
      simp at hv
      omega
     have hm2:=hM (i+x.w.toNat) (by omega) (by omega)
     have hm3:=pow6_mono (show L-(i+x.w.toNat)<=L-i-2 from by omega)
     omega
    ·omega)
   have hlen2:(l.length:Int)*6^(L-i-2)<=6*6^(L-i-2):=Int.mul_le_mul_of_nonneg_right (by omega) (by omega)
   have e2:(6:Int)^(L-i-1)=6^(L-i-2)*6:=by rw[show L-i-1=(L-i-2)+1 from by omega,Int.pow_succ]
   rw[e1,Int.pow_succ]
   omega
  ·have hs:(l.map λk=>if nK ks i A k=v then M (i+(ks.getD k ⟨0,0,0⟩).w.toNat)else 0).sum<=l.length*0:=sum_le _ 0 l (λk hm=>by
    obtain⟨x,hx,hc,hd⟩:=canI_at (hl k hm)
    have hb:=hk.bd hx
    have hle:=(canB_iff.1 hc).1
    show(if nK ks i A k=v then M (i+(ks.getD k ⟨0,0,0⟩).w.toNat)else 0)<=0
    rw[hd]
    split
    ·rename_i hv
     exfalso
     have hw1:x.w=1:=by omega
     unfold nK at hv
     rw[hd,hw1]at hv
     simp at hv
     omega
    ·omega)
   rw[e1,Int.pow_succ]
   omega
 ·rw[if_neg hb0]
  have hs:=sum_le (λk=>if nK ks i A k=v then M (i+(ks.getD k ⟨0,0,0⟩).w.toNat)else 0) (6^(L-i-1)) l (λk hm=>by
   obtain⟨x,hx,hc,hd⟩:=canI_at (hl k hm)
   have hb:=hk.bd hx
   have hle:=(canB_iff.1 hc).1
   show(if nK ks i A k=v then M (i+(ks.getD k ⟨0,0,0⟩).w.toNat)else 0)<=_
   rw[hd]
   split
   ·have hm2:=hM (i+x.w.toNat) (by omega) (by omega)
    have hm3:=pow6_mono (show L-(i+x.w.toNat)<=L-i-1 from by omega)
    omega
   ·omega)
  have hlen2:(l.length:Int)*6^(L-i-1)<=6*6^(L-i-1):=Int.mul_le_mul_of_nonneg_right (by omega) (by omega)
  rw[e1,Int.pow_succ]
  omega
end Go.Proofs.YtednconodjeniaaGreat.C
