/- Plain law of chapter 3: the greedy filling by latest hour has no more loads up to each hour than a chain of windows needs. No program. · Plain law of chapter 3: right hours have at least as many loads as a chain of windows needs. No program. · Plain law of chapter 3: the document's list of least loads is the number of greedy loads up to each hour. No program. · Plain law of chapter 3: the document's late loads are the greedy ones. No program. -/
namespace Go.Proofs.YtifehdoghfnhoaaGreatDoor.Fill
section
variable{α:Type}(lo hi:α->Int)
def takeL(t:Int):Nat->List α->List α×List α
 |_,[]=>([],[])
 |0,l=>([],l)
 |n+1,x::l=>if t<lo x then((takeL t (n+1) l).1,x::(takeL t (n+1) l).2)else(x::(takeL t n l).1,(takeL t n l).2)
def fillL(L:Nat):Nat->List α->List Int
 |0,_=>[]
 |_,[]=>[]
 |f+1,x::l=>hi x::fillL L f (takeL lo (hi x) L (x::l)).2
theorem takeL_zero(t:Int)(l:List α):takeL lo t 0 l=([],l):=by cases l<;>rfl
theorem takeL_count(p:α->Bool)(t:Int):∀(l:List α)(n:Nat),l.countP p=(takeL lo t n l).1.countP p+(takeL lo t n l).2.countP p
 |[],n=>by cases n<;>simp[takeL]
 |x::l,0=>by simp[takeL]
 |x::l,n+1=>by
  unfold takeL
  split
  ·have:=takeL_count p t l (n+1)
   simp only[List.countP_cons]
   omega
  ·have:=takeL_count p t l n
   simp only[List.countP_cons]
   omega
theorem takeL_len(t:Int):∀(l:List α)(n:Nat),(takeL lo t n l).1.length<=n
 |[],n=>by cases n<;>simp[takeL]
 |x::l,0=>by simp[takeL]
 |x::l,n+1=>by
  unfold takeL
  split
  ·exact takeL_len t l (n+1)
  ·have:=takeL_len t l n
   simp only[List.length_cons]
   omega
theorem takeL_sub(t:Int):∀(l:List α)(n:Nat),(takeL lo t n l).2.Sublist l
 |[],n=>by cases n<;>simp[takeL]
 |x::l,0=>by simp[takeL]
 |x::l,n+1=>by
  unfold takeL
  split
  ·exact(takeL_sub t l (n+1)).cons_cons x
  ·exact(takeL_sub t l n).cons x
theorem takeL_sub1(t:Int):∀(l:List α)(n:Nat),(takeL lo t n l).1.Sublist l
 |[],n=>by cases n<;>simp[takeL]
 |x::l,0=>by simp[takeL]
 |x::l,n+1=>by
  unfold takeL
  split
  ·exact(takeL_sub1 t l (n+1)).cons x
  ·exact(takeL_sub1 t l n).cons_cons x
theorem takeL_lo(t:Int):∀(l:List α)(n:Nat),∀x∈(takeL lo t n l).1,lo x<=t
 |[],n=>by cases n<;>simp[takeL]
 |x::l,0=>by simp[takeL]
 |x::l,n+1=>by
  unfold takeL
  split
  ·exact takeL_lo t l (n+1)
  ·intro y hy
   rcases List.mem_cons.1 hy with rfl|hy
   ·omega
   ·exact takeL_lo t l n y hy
theorem takeL_room(t:Int):∀(l:List α)(n:Nat),(takeL lo t n l).1.length<n->∀x∈(takeL lo t n l).2,t<lo x
 |[],n=>by cases n<;>simp[takeL]
 |x::l,0=>by simp[takeL]
 |x::l,n+1=>by
  unfold takeL
  split
  ·rename_i h
   intro hl y hy
   rcases List.mem_cons.1 hy with rfl|hy
   ·exact h
   ·exact takeL_room t l (n+1) hl y hy
  ·intro hl
   exact takeL_room t l n (by simpa using hl)
theorem takeL_late(t h:Int):∀(l:List α)(n:Nat),l.Pairwise (λa b=>hi a<=hi b)->∀y∈(takeL lo t n l).1,h<hi y->∀x∈(takeL lo t n l).2,hi x<=h->t<lo x
 |[],n=>by cases n<;>simp[takeL]
 |x::l,0=>by simp[takeL]
 |x::l,n+1=>by
  intro hs
  obtain⟨h1,h2⟩:=List.pairwise_cons.1 hs
  unfold takeL
  split
  ·rename_i hx
   intro y hy hyh z hz hzh
   rcases List.mem_cons.1 hz with rfl|hz
   ·exact hx
   ·exact takeL_late t h l (n+1) h2 y hy hyh z hz hzh
  ·intro y hy hyh z hz hzh
   rcases List.mem_cons.1 hy with rfl|hy
   ·have:=h1 z ((takeL_sub lo t l n).subset hz)
    omega
   ·exact takeL_late t h l n h2 y hy hyh z hz hzh
theorem fillL_mem(L:Nat):∀(f:Nat)(l:List α)(t:Int),t∈fillL lo hi L f l->∃x∈l,hi x=t
 |0,l,t,h=>by simp[fillL]at h
 |f+1,[],t,h=>by simp[fillL]at h
 |f+1,x::l,t,h=>by
  unfold fillL at h
  rcases List.mem_cons.1 h with rfl|h
  ·exact⟨x,by simp,rfl⟩
  ·obtain⟨y,hy,he⟩:=fillL_mem L f _ t h
   exact⟨y,(takeL_sub lo (hi x) (x::l) L).subset hy,he⟩
def inW(T h:Int)(x:α):Bool:=decide (T<lo x)&&decide (hi x<=h)
inductive Chain(L:Nat)(all:List α):Int->Nat->Prop
 |nil (h:Int):Chain L all h 0
 |cons (h:Int) (v n:Nat) (x y:α):x∈all->y∈all->lo x<=hi y->hi y<=h->Chain L all (lo x-1) v->(n-1)*L+1<=all.countP (inW lo hi (lo x-1) (hi y))->Chain L all h (v+n)
theorem Chain.mono{L:Nat}{all:List α}{h h':Int}{v:Nat}(c:Chain lo hi L all h v)(hh:h<=h'):Chain lo hi L all h' v:=by
 cases c with
 |nil=>exact .nil h'
 |cons _ v n x y hx hy h1 h2 h3 h4=>exact .cons h' v n x y hx hy h1 (by omega) h3 h4
theorem least_lo(p:α->Bool):∀(l:List α)(x:α),x∈l->p x=true->∃y∈l,p y=true/\∀z∈l,p z=true->lo y<=lo z
 |[],x,h,_=>by simp at h
 |a::l,x,h,hp=>by
  by_cases hl:∃z∈l,p z=true
  ·obtain⟨z,hz,hpz⟩:=hl
   obtain⟨y,hy,hpy,hmin⟩:=least_lo p l z hz hpz
   by_cases ha:p a=true/\lo a<lo y
   ·refine⟨a,by simp,ha.1,λz hz hpz=>?_⟩
    rcases List.mem_cons.1 hz with rfl|hz
    ·omega
    ·have:=hmin z hz hpz;omega
   ·refine⟨y,by simp[hy],hpy,λz hz hpz=>?_⟩
    rcases List.mem_cons.1 hz with rfl|hz
    ·by_cases h2:lo z<lo y
     ·exact absurd ⟨hpz,h2⟩ ha
     ·omega
    ·exact hmin z hz hpz
  ·rcases List.mem_cons.1 h with rfl|h
   ·refine⟨x,by simp,hp,λz hz hpz=>?_⟩
    rcases List.mem_cons.1 hz with rfl|hz
    ·omega
    ·exact absurd ⟨z,hz,hpz⟩ hl
   ·exact absurd ⟨x,h,hp⟩ hl
theorem inW_iff{T h:Int}{x:α}:inW lo hi T h x=true↔T<lo x/\hi x<=h:=by unfold inW;simp
theorem Chain.more{L:Nat}{all:List α}{T h:Int}{v c:Nat}(hlh:∀x∈all,lo x<=hi x)(ch:Chain lo hi L all T v){x:α}(hx:x∈all)(h1:T<lo x)(h2:hi x=h)(hc:c*L+1<=all.countP (inW lo hi T h)):Chain lo hi L all h (v+(c+1)):=by
 obtain⟨y,hy,hpy,hmin⟩:=least_lo lo (inW lo hi T h) all x hx ((inW_iff lo hi).2 ⟨h1,by omega⟩)
 obtain⟨hy1,hy2⟩:=(inW_iff lo hi).1 hpy
 have hxl:=hlh x hx
 have hyx:=hmin x hx ((inW_iff lo hi).2 ⟨h1,by omega⟩)
 refine .cons h v (c+1) y x hy hx (by omega) (by omega) (ch.mono lo hi (by omega)) ?_
 rw[Nat.add_sub_cancel]
 refine Nat.le_trans hc (List.countP_mono_left λz hz hp=>?_)
 obtain⟨p1,p2⟩:=(inW_iff lo hi).1 hp
 have:=hmin z hz hp
 exact(inW_iff lo hi).2 ⟨by omega,by omega⟩
theorem scan(L:Nat)(all:List α)(loads:List Int)(hlh:∀x∈all,lo x<=hi x)(M:Nat)(h:Int)(hprev:∀m t,m<M->loads[m]? =some t->∃v,m+1<=v/\Chain lo hi L all t v):
 ∀(f:Nat)(left:List α)(pre:List Int)(T:Int)(j c v:Nat)(n:Nat),left.Pairwise (λa b=>hi a<=hi b)->(∀x∈left,x∈all)->(∀p,left.countP p<=all.countP p)->loads=pre++fillL lo hi L f left->pre.length=j+c->(∀x∈left,hi x<=h->T<lo x)->
  j<=v->Chain lo hi L all T v->c*L+left.countP (inW lo hi T h)<=all.countP (inW lo hi T h)->M=pre.length+n->(fillL lo hi L f left)[n]? =some h->∃v,M+1<=v/\Chain lo hi L all h v:=by
 intro f
 induction f with
 |zero=>intro left pre T j c v n _ _ _ _ _ _ _ _ _ _ hn;simp[fillL]at hn
 |succ f ih=>
  intro left pre T j c v n hs hall hcall hload hpre hT hjv hch hcnt hM hn
  cases left with
  |nil=>simp[fillL]at hn
  |cons x l=>
   have hxall:=hall x (by simp)
   cases n with
   |zero=>
    unfold fillL at hn
    simp only[List.getElem?_cons_zero,Option.some.injEq]at hn
    have hxT:=hT x (by simp) (by omega)
    have hcx:1<=(x::l).countP (inW lo hi T h):=List.countP_pos_iff.2 ⟨x,by simp,(inW_iff lo hi).2 ⟨hxT,by omega⟩⟩
    exact⟨v+(c+1),by omega,hch.more lo hi hlh hxall hxT hn (by omega)⟩
   |succ n=>
    have hload':=hload
    unfold fillL at hn hload'
    rw[List.getElem?_cons_succ]at hn
    obtain⟨tk,htk⟩:∃tk,takeL lo (hi x) L (x::l)=tk:=⟨_,rfl⟩
    have k1:=λp=>takeL_count lo p (hi x) (x::l) L
    have k2:=takeL_len lo (hi x) (x::l) L
    have k3:=takeL_sub lo (hi x) (x::l) L
    have k4:=takeL_sub1 lo (hi x) (x::l) L
    have k5:=takeL_room lo (hi x) (x::l) L
    have k6:=takeL_late lo hi (hi x) h (x::l) L hs
    rw[htk]at hn hload' k2 k3 k4 k5 k6
    simp only[htk]at k1
    have hload2:loads=(pre++[hi x])++fillL lo hi L f tk.2:=by rw[hload',List.append_assoc];rfl
    have hall2:∀z∈tk.2,z∈all:=λz hz=>hall z (k3.subset hz)
    have hcall2:∀p,tk.2.countP p<=all.countP p:=λp=>Nat.le_trans (k3.countP_le (p:=p)) (hcall p)
    have hs2:tk.2.Pairwise (λa b=>hi a<=hi b):=hs.sublist k3
    by_cases hA:tk.1.length=L/\∀y∈tk.1,hi y<=h
    ·
     refine ih tk.2 (pre++[hi x]) T j (c+1) v n hs2 hall2 hcall2 hload2 (by simp;omega) (λz hz=>hT z (k3.subset hz)) hjv hch ?_ (by simp;omega) hn
     have h1:=k1 (inW lo hi T h)
     have h2:tk.1.countP (inW lo hi T h)=L:=by
      rw[<-hA.1,List.countP_eq_length]
      intro y hy
      exact(inW_iff lo hi).2 ⟨hT y (k4.subset hy) (hA.2 y hy),hA.2 y hy⟩
     rw[Nat.add_mul,Nat.one_mul]
     omega
    ·
     obtain⟨v',hv',hch'⟩:=hprev pre.length (hi x) (by omega) (by rw[hload'];simp)
     refine ih tk.2 (pre++[hi x]) (hi x) (pre.length+1) 0 v' n hs2 hall2 hcall2 hload2 (by simp) (λz hz hzh=>?_) hv' hch' ?_ (by simp;omega) hn
     ·by_cases hl:tk.1.length=L
      ·have hex:∃y∈tk.1,h<hi y:=Classical.byContradiction λhno=>hA ⟨hl,λy hy=>by
        by_cases hyh:hi y<=h
        ·exact hyh
        ·exact absurd ⟨y,hy,by omega⟩ hno⟩
       obtain⟨y,hy,hyh⟩:=hex
       exact k6 y hy hyh z hz hzh
      ·exact k5 (by omega) z hz
     ·rw[Nat.zero_mul,Nat.zero_add]
      exact hcall2 _
theorem fill_chain(L:Nat)(all l:List α)(hlh:∀x∈all,lo x<=hi x)(hs:l.Pairwise (λa b=>hi a<=hi b))(hall:∀x∈l,x∈all)(hc:∀p,l.countP p<=all.countP p)(f:Nat):
 ∀m t,(fillL lo hi L f l)[m]? =some t->∃v,m+1<=v/\Chain lo hi L all t v:=by
 intro m
 induction m using Nat.strongRecOn with
 |_ m ih=>
  intro t ht
  have hne:∃T:Int,∀x∈l,T<lo x:=by
   clear hs hall hc ht ih hlh
   induction l with
   |nil=>exact⟨0,by simp⟩
   |cons x l ih=>
    obtain⟨T,hT⟩:=ih
    refine⟨min T (lo x-1),λy hy=>?_⟩
    rcases List.mem_cons.1 hy with rfl|hy
    ·omega
    ·have:=hT y hy;omega
  obtain⟨T,hT⟩:=hne
  exact scan lo hi L all (fillL lo hi L f l) hlh m t (λm' t' hm' ht'=>ih m' hm' t' ht') f l [] T 0 0 0 m hs hall hc (by simp) rfl (λx hx _=>hT x hx) (Nat.le_refl _) (.nil T) (by simpa using hc _) (by simp) ht
theorem Chain.le{L:Nat}{all:List α}(S:Int->Nat)(hm:∀T b,T<=b->S T<=S b)(hS:∀T b,T<=b->all.countP (inW lo hi T b)<=(S b-S T)*L){h:Int}{v:Nat}(c:Chain lo hi L all h v):v<=S h:=by
 induction c with
 |nil h=>exact Nat.zero_le _
 |cons h v n x y hx hy h1 h2 _ h4 ih=>
  have e1:=hm (lo x-1) (hi y) (by omega)
  have e2:=hm (hi y) h h2
  have e3:=hS (lo x-1) (hi y) (by omega)
  have e4:n-1<S (hi y)-S (lo x-1):=by
   apply Classical.byContradiction
   intro hno
   have:(S (hi y)-S (lo x-1))*L<=(n-1)*L:=Nat.mul_le_mul_right L (by omega)
   omega
  omega
def fillA(L:Nat):Nat->List α->List (α×Int)
 |0,_=>[]
 |_,[]=>[]
 |f+1,x::l=>(takeL lo (hi x) L (x::l)).1.map (λy=>(y,hi x))++fillA L f (takeL lo (hi x) L (x::l)).2
theorem fillA_right(L:Nat):∀(f:Nat)(l:List α),l.Pairwise (λa b=>hi a<=hi b)->∀p∈fillA lo hi L f l,lo p.1<=p.2/\p.2<=hi p.1
 |0,l,_,p,h=>by simp[fillA]at h
 |f+1,[],_,p,h=>by simp[fillA]at h
 |f+1,x::l,hs,p,h=>by
  unfold fillA at h
  rcases List.mem_append.1 h with h|h
  ·obtain⟨y,hy,rfl⟩:=List.mem_map.1 h
   refine⟨takeL_lo lo (hi x) (x::l) L y hy,?_⟩
   have hyl:=(takeL_sub1 lo (hi x) (x::l) L).subset hy
   rcases List.mem_cons.1 hyl with rfl|hyl
   ·exact Int.le_refl _
   ·exact(List.pairwise_cons.1 hs).1 y hyl
  ·exact fillA_right L f _ (hs.sublist (takeL_sub lo (hi x) (x::l) L)) p h
theorem countP_map_le{β:Type}(g:α->β)(p:β->Bool)(l:List α):(l.map g).countP p=l.countP (λa=>p (g a)):=by
 rw[List.countP_map]
 rfl
theorem fillA_room(L:Nat)(q:Int->Bool):∀(f:Nat)(l:List α),(fillA lo hi L f l).countP (λp=>q p.2)<=(fillL lo hi L f l).countP q*L
 |0,l=>by simp[fillA,fillL]
 |f+1,[]=>by simp[fillA,fillL]
 |f+1,x::l=>by
  unfold fillA fillL
  have ih:=fillA_room L q f (takeL lo (hi x) L (x::l)).2
  have hl:=takeL_len lo (hi x) (x::l) L
  rw[List.countP_append,countP_map_le,List.countP_cons]
  show(takeL lo (hi x) L (x::l)).1.countP (λ_=>q (hi x))+_<=_
  by_cases hq:q (hi x)=true
  ·have h1:=List.countP_le_length (p:=λ_:α=>q (hi x)) (l:=(takeL lo (hi x) L (x::l)).1)
   rw[if_pos hq,Nat.add_mul,Nat.one_mul]
   omega
  ·have h1:(takeL lo (hi x) L (x::l)).1.countP (λ_=>q (hi x))=0:=List.countP_eq_zero.2 (λ_ _=>hq)
   rw[if_neg hq,Nat.add_zero]
   omega
theorem fillA_all(L:Nat)(hL:1<=L)(q:α->Bool):∀(f:Nat)(l:List α),l.length<=f->(∀x∈l,lo x<=hi x)->(fillA lo hi L f l).countP (λp=>q p.1)=l.countP q
 |0,l,hf,_=>by
  have:l=[]:=List.length_eq_zero_iff.1 (by omega)
  subst this
  rfl
 |f+1,[],_,_=>by simp[fillA]
 |f+1,x::l,hf,hx=>by
  unfold fillA
  have hsub:=takeL_sub lo (hi x) (x::l) L
  have hlen:(takeL lo (hi x) L (x::l)).2.length<=f:=by
   obtain⟨k,rfl⟩:∃k,L=k+1:=⟨L-1,by omega⟩
   unfold takeL
   rw[if_neg (by have:=hx x (by simp);omega)]
   have:=(takeL_sub lo (hi x) l k).length_le
   simp only[List.length_cons]at hf
   show(takeL lo (hi x) k l).2.length<=f
   omega
  rw[List.countP_append,countP_map_le,fillA_all L hL q f _ hlen (λy hy=>hx y (hsub.subset hy))]
  exact(takeL_count lo q (hi x) (x::l) L).symm
theorem chain_fill(L:Nat)(hL:1<=L)(all l:List α)(hlh:∀x∈l,lo x<=hi x)(hs:l.Pairwise (λa b=>hi a<=hi b))(hc:∀p,l.countP p=all.countP p)(f:Nat)(hf:l.length<=f){h:Int}{v:Nat}(c:Chain lo hi L all h v):v<=(fillL lo hi L f l).countP (λt=>decide (t<=h)):=by
 refine c.le lo hi (λh=>(fillL lo hi L f l).countP (λt=>decide (t<=h))) (λT b hTb=>List.countP_mono_left λt _ ht=>?_) (λT b hTb=>?_)
 ·simp only[decide_eq_true_eq]at ht ⊢;omega
 ·have h1:(fillL lo hi L f l).countP (λt=>decide (t<=b))=(fillL lo hi L f l).countP (λt=>decide (t<=T))+(fillL lo hi L f l).countP (λt=>decide (T<t)&&decide (t<=b)):=by
   generalize fillL lo hi L f l=ts
   induction ts with
   |nil=>rfl
   |cons t ts ih=>
    simp only[List.countP_cons,ih]
    by_cases e1:t<=T
    ·simp[e1,show t<=b by omega,show¬T<t by omega];omega
    ·by_cases e2:t<=b
     ·simp[e1,e2,show T<t by omega];omega
     ·simp[e1,e2]
  have h2:=fillA_room lo hi L (λt=>decide (T<t)&&decide (t<=b)) f l
  have h3:=fillA_all lo hi L hL (inW lo hi T b) f l hf hlh
  have h4:(fillA lo hi L f l).countP (λp=>inW lo hi T b p.1)<=(fillA lo hi L f l).countP (λp=>decide (T<p.2)&&decide (p.2<=b)):=List.countP_mono_left λp hp hq=>by
   obtain⟨r1,r2⟩:=fillA_right lo hi L f l hs p hp
   obtain⟨q1,q2⟩:=(inW_iff lo hi).1 hq
   simp only[Bool.and_eq_true,decide_eq_true_eq]
   omega
  rw[<-hc,<-h3]
  rw[show(fillL lo hi L f l).countP (λt=>decide (t<=b))-(fillL lo hi L f l).countP (λt=>decide (t<=T))=(fillL lo hi L f l).countP (λt=>decide (T<t)&&decide (t<=b))by omega]
  exact Nat.le_trans h4 h2
theorem fillL_sorted(L:Nat):∀(f:Nat)(l:List α),l.Pairwise (λa b=>hi a<=hi b)->(fillL lo hi L f l).Pairwise (· <= ·)
 |0,l,_=>by simp[fillL]
 |f+1,[],_=>by simp[fillL]
 |f+1,x::l,hs=>by
  unfold fillL
  have hsub:=takeL_sub lo (hi x) (x::l) L
  refine List.pairwise_cons.2 ⟨λt ht=>?_,fillL_sorted L f _ (hs.sublist hsub)⟩
  obtain⟨y,hy,rfl⟩:=fillL_mem lo hi L f _ t ht
  rcases List.mem_cons.1 (hsub.subset hy)with rfl|hy
  ·exact Int.le_refl _
  ·exact(List.pairwise_cons.1 hs).1 y hy
theorem sorted_at(h:Int):∀(ts:List Int)(m:Nat),ts.Pairwise (· <= ·)->ts.countP (λt=>decide (t<=h))=m+1->∃t,ts[m]? =some t/\t<=h
 |[],m,_,hc=>by simp at hc
 |t::ts,m,hs,hc=>by
  obtain⟨h1,h2⟩:=List.pairwise_cons.1 hs
  rw[List.countP_cons]at hc
  by_cases ht:t<=h
  ·simp only[ht,decide_true,if_true]at hc
   cases m with
   |zero=>exact⟨t,rfl,ht⟩
   |succ m=>
    obtain⟨u,h3,h4⟩:=sorted_at h ts m h2 (by omega)
    exact⟨u,by simpa using h3,h4⟩
  ·exfalso
   have:ts.countP (λt=>decide (t<=h))=0:=List.countP_eq_zero.2 (λu hu=>by have:=h1 u hu;simp;omega)
   simp[ht,this]at hc
theorem fill_max(L:Nat)(hL:1<=L)(all l:List α)(hlh:∀x∈all,lo x<=hi x)(hs:l.Pairwise (λa b=>hi a<=hi b))(hall:∀x∈l,x∈all)(hc:∀p,l.countP p=all.countP p)(f:Nat)(hf:l.length<=f)(h:Int):
 Chain lo hi L all h ((fillL lo hi L f l).countP (λt=>decide (t<=h)))/\∀v,Chain lo hi L all h v->v<=(fillL lo hi L f l).countP (λt=>decide (t<=h)):=by
 have hle:=λv(c:Chain lo hi L all h v)=>chain_fill lo hi L hL all l (λx hx=>hlh x (hall x hx)) hs hc f hf c
 refine⟨?_,hle⟩
 obtain⟨g,hg⟩:∃g,(fillL lo hi L f l).countP (λt=>decide (t<=h))=g:=⟨_,rfl⟩
 rw[hg]
 cases g with
 |zero=>exact .nil h
 |succ m=>
  obtain⟨t,h1,h2⟩:=sorted_at h _ m (fillL_sorted lo hi L f l hs) hg
  obtain⟨v,h3,h4⟩:=fill_chain lo hi L all l hlh hs hall (λp=>by rw[hc];exact Nat.le_refl _) f m t h1
  have h5:=hle v (h4.mono lo hi h2)
  rw[hg]at h5
  obtain rfl:v=m+1:=by omega
  exact h4.mono lo hi h2
end
end Go.Proofs.YtifehdoghfnhoaaGreatDoor.Fill
namespace Go.Proofs.YtifehdoghfnhoaaGreatDoor.Fill
theorem nsum_le(f g:Nat->Nat):∀l:List Nat,(∀t∈l,f t<=g t)->(l.map f).sum<=(l.map g).sum
 |[],_=>Nat.le_refl _
 |t::l,h=>by
  have:=nsum_le f g l (λu hu=>h u (by simp[hu]))
  have:=h t (by simp)
  simp only[List.map_cons,List.sum_cons]
  omega
theorem nsum_add(f g:Nat->Nat):∀l:List Nat,(l.map λt=>f t+g t).sum=(l.map f).sum+(l.map g).sum
 |[]=>rfl
 |t::l=>by
  have:=nsum_add f g l
  simp only[List.map_cons,List.sum_cons]
  omega
theorem nsum_mul(f:Nat->Nat)(c:Nat):∀l:List Nat,(l.map λt=>f t*c).sum=(l.map f).sum*c
 |[]=>by simp
 |t::l=>by
  have:=nsum_mul f c l
  simp only[List.map_cons,List.sum_cons,Nat.add_mul]
  omega
theorem nsum_one(f:Nat->Nat):∀(l:List Nat)(t:Nat),t∈l->f t<=(l.map f).sum
 |[],t,h=>by simp at h
 |u::l,t,h=>by
  simp only[List.map_cons,List.sum_cons]
  rcases List.mem_cons.1 h with rfl|h
  ·omega
  ·have:=nsum_one f l t h;omega
def upN(n L:Nat):Nat:=(n+L-1) / L
theorem upN_room(n L:Nat)(hL:1<=L):n<=upN n L*L:=by
 unfold upN
 have h1:=Nat.div_add_mod (n+L-1) L
 have h2:=Nat.mod_lt (n+L-1) hL
 rw[Nat.mul_comm]at h1
 omega
def loadsN(L:Nat)(hs:List Int):Nat:=((List.range 101).map λt:Nat=>upN (hs.countP λh=>decide (h=(t:Int))) L).sum
def upTo(L:Nat)(hs:List Int)(h:Int):Nat:=((List.range 101).map λt:Nat=>if(t:Int)<=h then upN (hs.countP λh=>decide (h=(t:Int))) L else 0).sum
theorem count_hours(q:Int->Bool):∀(hs:List Int),(∀h∈hs,0<=h/\h<=100)->hs.countP q<=((List.range 101).map λt:Nat=>if q (t:Int)then hs.countP (λh=>decide (h=(t:Int)))else 0).sum
 |[],_=>by simp
 |h::hs,hb=>by
  have ih:=count_hours q hs (λu hu=>hb u (by simp[hu]))
  have h0:=hb h (by simp)
  have e:((List.range 101).map λt:Nat=>if q (t:Int)then(h::hs).countP (λh=>decide (h=(t:Int)))else 0).sum=((List.range 101).map λt:Nat=>if q (t:Int)then hs.countP (λh=>decide (h=(t:Int)))else 0).sum+((List.range 101).map λt:Nat=>if q (t:Int)then(if h=(t:Int)then 1 else 0)else 0).sum:=by
   rw[<-nsum_add]
   congr 1
   apply List.map_congr_left
   intro t _
   rw[List.countP_cons]
   by_cases hq:q (t:Int)=true
   ·simp[hq]
   ·simp[hq]
  rw[e,List.countP_cons]
  by_cases hq:q h=true
  ·have h1:=nsum_one (λt:Nat=>if q (t:Int)then(if h=(t:Int)then 1 else 0)else 0) (List.range 101) h.toNat (List.mem_range.2 (by omega))
   have e2:((h.toNat:Nat):Int)=h:=by omega
   simp only[e2,hq,if_true]at h1
   rw[if_pos hq]
   omega
  ·rw[if_neg hq]
   omega
section
variable{α:Type}(lo hi:α->Int)
theorem hours_upto(L:Nat)(hL:1<=L)(all:List α)(ps:List (α×Int))(hr:∀p∈ps,(lo p.1<=p.2/\p.2<=hi p.1)/\0<=p.2/\p.2<=100)(hc:∀q:α->Bool,all.countP q=ps.countP λp=>q p.1){h:Int}{v:Nat}(c:Chain lo hi L all h v):v<=upTo L (ps.map (·.2)) h:=by
 obtain⟨hs,hhs⟩:∃hs,ps.map (·.2)=hs:=⟨_,rfl⟩
 have hb:∀t∈hs,0<=t/\t<=100:=λt ht=>by
  rw[<-hhs]at ht
  obtain⟨p,hp,rfl⟩:=List.mem_map.1 ht
  exact(hr p hp).2
 rw[hhs]
 refine c.le lo hi (upTo L hs) (λT b hTb=>nsum_le _ _ _ λt _=>?_) (λT b hTb=>?_)
 ·show(if(t:Int)<=T then _ else 0)<=(if(t:Int)<=b then _ else 0)
  by_cases c1:(t:Int)<=T
  ·rw[if_pos c1,if_pos (by omega)];exact Nat.le_refl _
  ·rw[if_neg c1];exact Nat.zero_le _
 ·have e1:upTo L hs b=upTo L hs T+((List.range 101).map λt:Nat=>if(decide (T<(t:Int))&&decide ((t:Int)<=b))then upN (hs.countP λh=>decide (h=(t:Int))) L else 0).sum:=by
   unfold upTo
   rw[<-nsum_add]
   congr 1
   apply List.map_congr_left
   intro t _
   by_cases c1:(t:Int)<=T
   ·simp[c1,show(t:Int)<=b by omega,show¬T<(t:Int)by omega]
   ·by_cases c2:(t:Int)<=b
    ·simp[c1,c2,show T<(t:Int)by omega]
    ·simp[c1,c2]
  rw[e1,Nat.add_sub_cancel_left,<-nsum_mul,hc]
  have e2:ps.countP (λp=>inW lo hi T b p.1)<=hs.countP (λt=>decide (T<t)&&decide (t<=b)):=by
   rw[<-hhs,countP_map_le]
   refine List.countP_mono_left λp hp hq=>?_
   obtain⟨q1,q2⟩:=(inW_iff lo hi).1 hq
   have:=(hr p hp).1
   simp only[Bool.and_eq_true,decide_eq_true_eq]
   omega
  refine Nat.le_trans e2 (Nat.le_trans (count_hours _ hs hb) (nsum_le _ _ _ λt _=>?_))
  split
  ·exact upN_room _ L hL
  ·exact Nat.zero_le _
theorem hours_chain(L:Nat)(hL:1<=L)(all:List α)(ps:List (α×Int))(hr:∀p∈ps,(lo p.1<=p.2/\p.2<=hi p.1)/\0<=p.2/\p.2<=100)(hc:∀q:α->Bool,all.countP q=ps.countP λp=>q p.1){h:Int}{v:Nat}(c:Chain lo hi L all h v):v<=loadsN L (ps.map (·.2)):=by
 refine Nat.le_trans (hours_upto lo hi L hL all ps hr hc c) (nsum_le _ _ _ λt _=>?_)
 split
 ·exact Nat.le_refl _
 ·exact Nat.zero_le _
theorem nsum_ind(h:Int):∀l:List Nat,l.Nodup->(l.map λt:Nat=>if h=(t:Int)then 1 else 0).sum<=1
 |[],_=>by simp
 |t::l,hn=>by
  obtain⟨h1,h2⟩:=List.pairwise_cons.1 hn
  have ih:=nsum_ind h l h2
  simp only[List.map_cons,List.sum_cons]
  by_cases e:h=(t:Int)
  ·have hz:(l.map λt:Nat=>if h=(t:Int)then 1 else 0).sum=0:=by
    clear ih h2 hn
    induction l with
    |nil=>rfl
    |cons u l ih=>
     have hu:=h1 u (by simp)
     simp only[List.map_cons,List.sum_cons]
     rw[if_neg (by omega),ih (λv hv=>h1 v (by simp[hv]))]
   rw[if_pos e,hz]
   omega
  ·rw[if_neg e]
   omega
theorem count_all_le:∀hs:List Int,((List.range 101).map λt:Nat=>hs.countP (λh=>decide (h=(t:Int)))).sum<=hs.length
 |[]=>by
  have h:=nsum_mul (λ_=>1) 0 (List.range 101)
  rw[Nat.mul_zero]at h
  simp only[List.countP_nil,List.length_nil]
  exact Nat.le_of_eq h
 |h::hs=>by
  have ih:=count_all_le hs
  have e:((List.range 101).map λt:Nat=>(h::hs).countP (λh=>decide (h=(t:Int)))).sum=((List.range 101).map λt:Nat=>hs.countP (λh=>decide (h=(t:Int)))).sum+((List.range 101).map λt:Nat=>if h=(t:Int)then 1 else 0).sum:=by
   rw[<-nsum_add]
   congr 1
   apply List.map_congr_left
   intro t _
   rw[List.countP_cons]
   simp
  have:=nsum_ind h (List.range 101) List.nodup_range
  rw[e,List.length_cons]
  omega
theorem fill_loads(L:Nat)(hL:1<=L)(all l:List α)(hb:∀x∈all,0<=lo x/\lo x<=hi x/\hi x<=100)(hs:l.Pairwise (λa b=>hi a<=hi b))(hall:∀x∈l,x∈all)(hc:∀p,l.countP p=all.countP p)(f:Nat)(hf:l.length<=f):
 loadsN L ((fillA lo hi L f l).map (·.2))=(fillL lo hi L f l).length:=by
 have hlh:∀x∈all,lo x<=hi x:=λx hx=>(hb x hx).2.1
 have hA:∀p∈fillA lo hi L f l,p.1∈l:=by
  clear hs hc hf hlh hb hall
  induction f generalizing l with
  |zero=>intro p hp;simp[fillA]at hp
  |succ f ih=>
   cases l with
   |nil=>intro p hp;simp[fillA]at hp
   |cons x l=>
    intro p hp
    unfold fillA at hp
    rcases List.mem_append.1 hp with hp|hp
    ·obtain⟨y,hy,rfl⟩:=List.mem_map.1 hp
     exact(takeL_sub1 lo (hi x) (x::l) L).subset hy
    ·exact(takeL_sub lo (hi x) (x::l) L).subset (ih _ p hp)
 apply Nat.le_antisymm
 ·refine Nat.le_trans (nsum_le _ (λt=>(fillL lo hi L f l).countP λh=>decide (h=(t:Int))) _ λt _=>?_) (count_all_le _)
  have h1:=fillA_room lo hi L (λh=>decide (h=(t:Int))) f l
  rw[countP_map_le]
  unfold upN
  generalize (fillL lo hi L f l).countP (λh=>decide (h=(t:Int)))=k at h1
  generalize (fillA lo hi L f l).countP (λa=>decide (a.2=(t:Int)))=n at h1
  have:n+L-1<(k+1)*L:=by rw[Nat.add_mul,Nat.one_mul];omega
  exact Nat.le_of_lt_succ ((Nat.div_lt_iff_lt_mul (by omega)).2 this)
 ·have hm:=(fill_max lo hi L hL all l hlh hs hall hc f hf 100).1
  have hall100:(fillL lo hi L f l).countP (λt=>decide (t<=100))=(fillL lo hi L f l).length:=List.countP_eq_length.2 λt ht=>by
   obtain⟨x,hx,rfl⟩:=fillL_mem lo hi L f l t ht
   have:=(hb x (hall x hx)).2.2
   simpa using this
  rw[hall100]at hm
  refine hours_chain lo hi L hL all (fillA lo hi L f l) (λp hp=>?_) (λq=>?_) hm
  ·have h1:=fillA_right lo hi L f l hs p hp
   have h2:=hb p.1 (hall p.1 (hA p hp))
   omega
  ·rw[fillA_all lo hi L hL q f l hf (λx hx=>hlh x (hall x hx)),hc]
end
end Go.Proofs.YtifehdoghfnhoaaGreatDoor.Fill
namespace Go.Proofs.YtifehdoghfnhoaaGreatDoor.Fill
section
variable{α:Type}(lo hi:α->Int)
def needW(L:Nat)(all:List α)(a b:Int):Int:=((all.countP (λx=>decide (a<=lo x)&&decide (hi x<=b)):Nat)+(L:Int)-1) / L
def windowsP(all:List α):List (Int×Int):=all.flatMap λa=>(all.filter λb=>decide (lo a<=hi b)).map λb=>(lo a,hi b)
def leastStep(L:Nat)(all:List α)(ws:List (Int×Int))(A:Nat->Int)(h:Nat)(m:Int):Int:=
 ws.foldl (λm w=>if w.2=(h:Int)then max m (A w.1.toNat+needW lo hi L all w.1 w.2)else m) m
def leastAt(L:Nat)(all:List α):Nat->Nat->Int
 |0=>λ_=>0
 |n+1=>λj=>if j=n+1 then leastStep lo hi L all (windowsP lo hi all) (leastAt L all n) n (leastAt L all n n)else leastAt L all n j
theorem need_count(L:Nat)(hL:1<=L)(all:List α)(a b:Int)(n:Nat)(h:(n-1)*L+1<=all.countP (inW lo hi (a-1) b)):(n:Int)<=needW lo hi L all a b:=by
 have e:all.countP (inW lo hi (a-1) b)=all.countP (λx=>decide (a<=lo x)&&decide (hi x<=b)):=by
  congr 1
  funext x
  unfold inW
  congr 1
  exact decide_eq_decide.2 (by omega)
 rw[e]at h
 unfold needW
 generalize all.countP (λx=>decide (a<=lo x)&&decide (hi x<=b))=c at h
 apply Int.le_ediv_of_mul_le (by omega)
 cases n with
 |zero=>omega
 |succ n=>
  rw[Nat.add_sub_cancel]at h
  have:((n*L+1:Nat):Int)<=(c:Int):=by exact_mod_cast h
  rw[Int.natCast_add,Int.natCast_mul]at this
  rw[Int.natCast_add,Int.add_mul]
  omega
theorem count_need(L:Nat)(hL:1<=L)(all:List α)(a b:Int):0<=needW lo hi L all a b/\(1<=all.countP (inW lo hi (a-1) b)->((needW lo hi L all a b).toNat-1)*L+1<=all.countP (inW lo hi (a-1) b)):=by
 have e:all.countP (inW lo hi (a-1) b)=all.countP (λx=>decide (a<=lo x)&&decide (hi x<=b)):=by
  congr 1
  funext x
  unfold inW
  congr 1
  exact decide_eq_decide.2 (by omega)
 rw[e]
 unfold needW
 generalize all.countP (λx=>decide (a<=lo x)&&decide (hi x<=b))=c
 have h0:0<=((c:Int)+(L:Int)-1) / L:=Int.ediv_nonneg (by omega) (by omega)
 refine⟨h0,λh1=>?_⟩
 obtain⟨q,hq⟩:∃q:Nat,((c:Int)+(L:Int)-1) / L=q:=⟨(((c:Int)+(L:Int)-1) / L).toNat,by omega⟩
 rw[hq,Int.toNat_natCast]
 have h2:(q:Int)*L<=(c:Int)+L-1:=by
  rw[<-hq]
  exact Int.ediv_mul_le _ (by omega)
 cases q with
 |zero=>omega
 |succ q=>
  rw[Nat.add_sub_cancel]
  rw[Int.natCast_add,Int.add_mul]at h2
  have h3:((q*L:Nat):Int)=(q:Int)*L:=Int.natCast_mul q L
  omega
theorem step_le(L:Nat)(all:List α)(A:Nat->Int)(h:Nat):∀(ws:List (Int×Int))(m:Int),m<=leastStep lo hi L all ws A h m/\∀w∈ws,w.2=(h:Int)->A w.1.toNat+needW lo hi L all w.1 w.2<=leastStep lo hi L all ws A h m
 |[],m=>⟨Int.le_refl _,by simp⟩
 |w::ws,m=>by
  obtain⟨h1,h2⟩:=step_le L all A h ws (if w.2=(h:Int)then max m (A w.1.toNat+needW lo hi L all w.1 w.2)else m)
  have e:leastStep lo hi L all (w::ws) A h m=leastStep lo hi L all ws A h (if w.2=(h:Int)then max m (A w.1.toNat+needW lo hi L all w.1 w.2)else m):=rfl
  rw[e]
  refine⟨Int.le_trans ?_ h1,λu hu hue=>?_⟩
  ·split<;>omega
  ·rcases List.mem_cons.1 hu with rfl|hu
   ·refine Int.le_trans ?_ h1
    rw[if_pos hue]
    omega
   ·exact h2 u hu hue
theorem step_or(L:Nat)(all:List α)(A:Nat->Int)(h:Nat):∀(ws:List (Int×Int))(m:Int),leastStep lo hi L all ws A h m=m\/∃w∈ws,w.2=(h:Int)/\leastStep lo hi L all ws A h m=A w.1.toNat+needW lo hi L all w.1 w.2
 |[],m=>.inl rfl
 |w::ws,m=>by
  have e:leastStep lo hi L all (w::ws) A h m=leastStep lo hi L all ws A h (if w.2=(h:Int)then max m (A w.1.toNat+needW lo hi L all w.1 w.2)else m):=rfl
  rw[e]
  rcases step_or L all A h ws (if w.2=(h:Int)then max m (A w.1.toNat+needW lo hi L all w.1 w.2)else m)with h1|⟨u,hu,h2,h3⟩
  ·rw[h1]
   split
   ·rename_i hw
    by_cases hm:A w.1.toNat+needW lo hi L all w.1 w.2<=m
    ·left;omega
    ·right;exact⟨w,by simp,hw,by omega⟩
   ·exact .inl rfl
  ·exact .inr ⟨u,by simp[hu],h2,h3⟩
theorem least_fill(L:Nat)(hL:1<=L)(all l:List α)(hpos:∀x∈all,0<=lo x)(hlh:∀x∈all,lo x<=hi x)(hs:l.Pairwise (λa b=>hi a<=hi b))(hall:∀x∈l,x∈all)(hc:∀p,l.countP p=all.countP p)(f:Nat)(hf:l.length<=f):
 ∀n j,j<=n->leastAt lo hi L all n j=((fillL lo hi L f l).countP (λt=>decide (t<=(j:Int)-1)):Nat):=by
 have hmax:=fill_max lo hi L hL all l hlh hs hall hc f hf
 intro n
 induction n with
 |zero=>
  intro j hj
  obtain rfl:j=0:=by omega
  have:(fillL lo hi L f l).countP (λt=>decide (t<=((0:Nat):Int)-1))=0:=List.countP_eq_zero.2 λt ht=>by
   obtain⟨x,hx,rfl⟩:=fillL_mem lo hi L f l t ht
   have:=hpos x (hall x hx)
   have:=hlh x (hall x hx)
   simp
   omega
  rw[this]
  rfl
 |succ n ih=>
  intro j hj
  unfold leastAt
  by_cases e:j=n+1
  ·rw[if_pos e]
   subst e
   obtain⟨c1,c2⟩:=hmax (n:Int)
   rw[show(((n+1:Nat):Int)-1)=(n:Int)by omega]
   generalize hg:(fillL lo hi L f l).countP (λt=>decide (t<=(n:Int)))=g at c1 c2
   obtain⟨s1,s2⟩:=step_le lo hi L all (leastAt lo hi L all n) n (windowsP lo hi all) (leastAt lo hi L all n n)
   have hn:=ih n (Nat.le_refl _)
   obtain⟨d1,d2⟩:=hmax ((n:Int)-1)
   have hA:∀x∈all,lo x<=(n:Int)->leastAt lo hi L all n (lo x).toNat=((fillL lo hi L f l).countP (λt=>decide (t<=lo x-1)):Nat):=λx hx hxn=>by
    have h0:=hpos x hx
    rw[ih (lo x).toNat (by omega)]
    rw[show(((lo x).toNat:Nat):Int)=lo x by omega]
   apply Int.le_antisymm
   ·rcases step_or lo hi L all (leastAt lo hi L all n) n (windowsP lo hi all) (leastAt lo hi L all n n)with h1|⟨w,hw,h1,h2⟩
    ·rw[h1,hn]
     have:=c2 _ (d1.mono lo hi (by omega))
     omega
    ·unfold windowsP at hw
     obtain⟨x,hx,hw⟩:=List.mem_flatMap.1 hw
     obtain⟨y,hy,rfl⟩:=List.mem_map.1 hw
     obtain⟨hy1,hy2⟩:=List.mem_filter.1 hy
     simp only[decide_eq_true_eq]at hy2
     simp only at h1 h2
     rw[h2,hA x hx (by omega)]
     obtain⟨e1,_⟩:=hmax (lo x-1)
     obtain⟨n0,n1⟩:=count_need lo hi L hL all (lo x) (hi y)
     by_cases hcn:1<=all.countP (inW lo hi (lo x-1) (hi y))
     ·have:=c2 _ (Chain.cons (n:Int) _ (needW lo hi L all (lo x) (hi y)).toNat x y hx hy1 hy2 (by omega) e1 (n1 hcn))
      omega
     ·have hz:needW lo hi L all (lo x) (hi y)=0:=by
       have e:all.countP (inW lo hi (lo x-1) (hi y))=all.countP (λz=>decide (lo x<=lo z)&&decide (hi z<=hi y)):=by
        congr 1
        funext z
        unfold inW
        congr 1
        exact decide_eq_decide.2 (by omega)
       rw[e]at hcn
       unfold needW
       rw[show all.countP (λz=>decide (lo x<=lo z)&&decide (hi z<=hi y))=0 by omega]
       exact Int.ediv_eq_zero_of_lt (by omega) (by omega)
      have:=c2 _ (e1.mono lo hi (show lo x-1<=(n:Int)by omega))
      omega
   ·cases c1 with
    |nil=>exact Int.le_trans (by rw[hn];omega) s1
    |cons _ v k x y hx hy h1 h2 h3 h4=>
     by_cases hyn:hi y=(n:Int)
     ·have hm:((lo x,hi y):Int×Int)∈windowsP lo hi all:=List.mem_flatMap.2 ⟨x,hx,List.mem_map.2 ⟨y,List.mem_filter.2 ⟨hy,by simpa using h1⟩,rfl⟩⟩
      have h5:=s2 _ hm hyn
      simp only at h5
      rw[hA x hx (by omega)]at h5
      have h6:=(hmax (lo x-1)).2 _ h3
      have h7:=need_count lo hi L hL all (lo x) (hi y) k h4
      omega
     ·have h5:=d2 _ (Chain.cons ((n:Int)-1) v k x y hx hy h1 (by omega) h3 h4)
      omega
  ·rw[if_neg e]
   exact ih j (by omega)
end
end Go.Proofs.YtifehdoghfnhoaaGreatDoor.Fill
namespace Go.Proofs.YtifehdoghfnhoaaGreatDoor.Fill
theorem sorted_split(h:Int):∀ts:List Int,ts.Pairwise (· <= ·)->ts.filter (λt=>decide (t<=h))=ts.filter (λt=>decide (t<=h-1))++ts.filter (λt=>decide (t=h))
 |[],_=>rfl
 |t::ts,hs=>by
  obtain⟨h1,h2⟩:=List.pairwise_cons.1 hs
  have ih:=sorted_split h ts h2
  by_cases c1:t<=h-1
  ·rw[List.filter_cons_of_pos (by simpa using(by omega:t<=h)),List.filter_cons_of_pos (by simpa using c1),List.filter_cons_of_neg (by simp;omega),ih]
   rfl
  ·have hz:ts.filter (λt=>decide (t<=h-1))=[]:=List.filter_eq_nil_iff.2 λu hu=>by have:=h1 u hu;simp;omega
   rw[hz,List.nil_append]at ih
   rw[List.filter_cons_of_neg (p:=λt=>decide (t<=h-1)) (by simpa using c1),hz,List.nil_append]
   by_cases c2:t=h
   ·rw[List.filter_cons_of_pos (by simp;omega),List.filter_cons_of_pos (by simpa using c2),ih]
   ·rw[List.filter_cons_of_neg (by simp;omega),List.filter_cons_of_neg (by simpa using c2),ih]
theorem filter_repl(h:Int):∀ts:List Int,ts.filter (λt=>decide (t=h))=List.replicate (ts.countP λt=>decide (t=h)) h
 |[]=>rfl
 |t::ts=>by
  by_cases c:t=h
  ·rw[List.filter_cons_of_pos (by simpa using c),List.countP_cons_of_pos (by simpa using c),List.replicate_succ,filter_repl h ts,c]
  ·rw[List.filter_cons_of_neg (by simpa using c),List.countP_cons_of_neg (by simpa using c),filter_repl h ts]
def lateP(A:Nat->Int)(n:Nat):List Int:=(List.range n).flatMap λh:Nat=>List.replicate (A (h+1)-A h).toNat (h:Int)
theorem late_upto(ts:List Int)(hs:ts.Pairwise (· <= ·))(h0:∀t∈ts,0<=t)(A:Nat->Int):∀n:Nat,(∀j,j<=n->A j=((ts.countP λt=>decide (t<=(j:Int)-1):Nat):Int))->lateP A n=ts.filter λt=>decide (t<=(n:Int)-1)
 |0,_=>by
  have:ts.filter (λt=>decide (t<=((0:Nat):Int)-1))=[]:=List.filter_eq_nil_iff.2 λt ht=>by have:=h0 t ht;simp;omega
  rw[this]
  rfl
 |n+1,hA=>by
  have ih:=late_upto ts hs h0 A n (λj hj=>hA j (by omega))
  unfold lateP at ih ⊢
  rw[List.range_succ,List.flatMap_append,ih]
  have e1:=hA n (by omega)
  have e2:=hA (n+1) (Nat.le_refl _)
  rw[show(((n+1:Nat):Int)-1)=(n:Int)by omega]at e2 ⊢
  have e3:=sorted_split (n:Int) ts hs
  have e4:=congrArg List.length e3
  rw[List.length_append,<-List.countP_eq_length_filter,<-List.countP_eq_length_filter,filter_repl,List.length_replicate]at e4
  rw[e3,filter_repl]
  congr 1
  simp only[List.flatMap_cons,List.flatMap_nil,List.append_nil]
  congr 1
  omega
section
variable{α:Type}(lo hi:α->Int)
theorem late_fill(L:Nat)(hL:1<=L)(all l:List α)(hb:∀x∈all,0<=lo x/\lo x<=hi x/\hi x<=100)(hs:l.Pairwise (λa b=>hi a<=hi b))(hall:∀x∈l,x∈all)(hc:∀p,l.countP p=all.countP p)(f:Nat)(hf:l.length<=f):
 lateP (leastAt lo hi L all 101) 101=fillL lo hi L f l:=by
 have hmem:∀t∈fillL lo hi L f l,0<=t/\t<=100:=λt ht=>by
  obtain⟨x,hx,rfl⟩:=fillL_mem lo hi L f l t ht
  have:=hb x (hall x hx)
  omega
 rw[late_upto (fillL lo hi L f l) (fillL_sorted lo hi L f l hs) (λt ht=>(hmem t ht).1) _ 101 (λj hj=>least_fill lo hi L hL all l (λx hx=>(hb x hx).1) (λx hx=>(hb x hx).2.1) hs hall hc f hf 101 j hj)]
 exact List.filter_eq_self.2 λt ht=>by have:=hmem t ht;simp;omega
end
end Go.Proofs.YtifehdoghfnhoaaGreatDoor.Fill
