/- Closed calls are reckoned by the kernel: a region that draws its order, whatever order comes. -/
import Derived.Test.YtifehdoghfnhoaaGreatDoorZEvM
namespace Go.Proofs.YtifehdoghfnhoaaGreatDoor.Ev
noncomputable section
open Go.RowKit Go.Shelf
theorem Post.join{N:Nat}{ρ ρ' ρ'':Rho}{H H' H'':Hp}{W W' W'':World}{k K j j':Nat}(h:Post N ρ H W H' k K ρ' W')(h':Post N ρ' H' W' H'' j j' ρ'' W'')(hk:k<=j)(hk':j'<=K):Post N ρ H W H'' k K ρ'' W'':=by
 refine⟨h.le.trans h'.le,λn hn=>(h'.only n (by omega)).trans (h.only n hn),h'.heap,?_,λb hb=>?_⟩
 ·refine⟨h'.keep.os.trans h.keep.os,h'.keep.tape.trans h.keep.tape,h'.keep.output.trans h.keep.output,Nat.le_trans h.keep.size h'.keep.size,λb hb hn=>?_⟩
  refine(h'.keep.block b (Nat.lt_of_lt_of_le hb h.keep.size) (λhi=>?_)).trans (h.keep.block b hb hn)
  rcases h.from_ b hi with h1|h1
  ·exact hn h1
  ·omega
 ·rcases h'.from_ b hb with h1|h1
  ·exact h.from_ b h1
  ·exact .inr (Nat.le_trans h.keep.size h1)
theorem getD_put_ne{a:Act}{d:Option Tmp}{v:Value}{t:Nat}(h:d≠some t):(a.put d v).tmps.getD t undef=a.tmps.getD t undef:=by
 cases d with
 |none=>rfl
 |some d=>
  have hne:d≠t:=λe=>h (by rw[e])
  simp only[Act.put,Array.getD_eq_getD_getElem?,Array.getElem?_setIfInBounds_ne hne]
theorem getD_put_eq{a:Act}{v:Value}{t:Nat}(h:t<a.tmps.size):(a.put (some t) v).tmps.getD t undef=v:=by
 simp only[Act.put,Array.getD_eq_getD_getElem?,Array.getElem?_setIfInBounds_self_of_lt h,Option.getD_some]
theorem put_size(a:Act)(d:Option Tmp)(v:Value):(a.put d v).tmps.size=a.tmps.size:=by cases d<;>simp[Act.put]
section
variable{P:Program}{ops:Array Oper}{ans:List Nat}{nt:Nat}{H0:Hp}{A0 A':T AV}{k0 kE:Nat}{N:Nat}{ρ ρL:Rho}{a a':Act}{w0 W:World}{recs:List Rec}{L:Nat->Bool}{Q:Exit->Act->World->Prop}
structure Inv(N:Nat)(ρ:Rho)(H0:Hp)(w0:World)(k0 kE:Nat)(ops:Array Oper)(recs:List Rec)(a:Act)(L:Nat->Bool)(a':Act)(W:World)(ρL:Rho):Prop where
 post:Post N ρ H0 w0 (ovr (dAll L recs) H0) k0 kE ρL W
 names:∀n,(∀rc∈recs,L rc.ix=true->¬(rc.k<=n/\n<rc.r.k))->ρL n=ρ n
 size:a'.tmps.size=a.tmps.size
 defers:a'.defers=a.defers
 new:∀rc∈recs,L rc.ix=true->∀o t,ops[rc.ix]? =some o->o.dst=some t->RelV ρL rc.r.v (a'.tmps.getD t undef)
 old:∀t,(∀rc∈recs,L rc.ix=true->∀o,ops[rc.ix]? =some o->o.dst≠some t)->a'.tmps.getD t undef=a.tmps.getD t undef
def Closed(ops:Array Oper)(L:Nat->Bool):Prop:=∀i o,L i=true->ops[i]? =some o->∀e∈o.after,Region.binds .any e=true->L e.on=true
theorem anc_in(hB:DagP ops)(hans:AnsP ops ans)(hcl:Closed ops L):∀(i:Nat)(o:Oper),ops[i]? =some o->(∀e∈o.after,Region.binds .any e=true->L e.on=true)->∀j,j<ops.size->tb (hdN (ans.drop i)) j=true->L j=true:=by
 intro i
 induction i using Nat.strongRecOn with
 |ind i ih=>
  intro o ho hdeps j hj ht
  have hi:i<ops.size:=(Array.getElem?_eq_some_iff.1 ho).1
  obtain⟨e,he,hb,hx⟩:=(hans i j hi ht).2 o ho
  rcases hx with hx|hx
  ·rw[<-hx];exact hdeps e he hb
  ·have hlt:=hB.back _ _ ho e he hb
   have hoe:ops[e.on]? =some ops[e.on]:=Array.getElem?_eq_getElem (by omega)
   exact ih e.on hlt _ hoe (hcl _ _ (hdeps e he hb) hoe) j hj hx
theorem drawn_sub(hB:DagP ops)(hans:AnsP ops ans)(hsep:sepOk recs=true)(hR:RecsOk P ops ans nt H0 A0 k0 recs A' kE)(hlen:recs.length=ops.size)(hcl:Closed ops L){rc:Rec}(hr:rc∈recs)(t:At P ops ans nt H0 A0 k0 recs rc)
 (hL:L rc.ix=false)(hdeps:∀e∈t.o.after,Region.binds .any e=true->L e.on=true):Sub rc.hp (ovr (dAll L recs) H0):=by
 intro n o hn
 have hlt:∀rc'∈recs,rc'.ix<ops.size:=λrc' h'=>by rw[<-hlen];exact((recs_le hR).2 rc' h').2.2
 have h1:=t.sub n o hn
 have e1:look (dAll (tb rc.an) recs) n=look (dAll (tb rc.an) t.pre) n:=by
  conv=>lhs;rw[t.is,show t.front++rc::t.pre=(t.front++[rc])++t.pre by simp]
  refine dAll_skip (λrc' h' ht=>?_)
  have hm:rc'∈recs:=by
   rw[t.is]
   rcases List.mem_append.1 h' with h2|h2
   ·exact List.mem_append_left _ h2
   ·rw[List.mem_singleton.1 h2];simp
  rw[t.an]at ht
  have hlt':=(hans _ _ (hlt rc hr) ht).1
  rcases List.mem_append.1 h' with h2|h2
  ·have:=(t.frontIx rc' h2).1;omega
  ·rw[List.mem_singleton.1 h2]at hlt';omega
 have e2:look (dAll L recs) n=look (dAll (tb rc.an) recs) n:=by
  refine dAll_eq (λrc' h' hne=>?_)
  have hs:tb rc.an rc'.ix=false/\L rc'.ix=true:=by
   cases ht:tb rc.an rc'.ix with
   |true=>
    have h2:L rc'.ix=true:=anc_in hB hans hcl rc.ix t.o t.op hdeps rc'.ix (hlt rc' h') (by rw[<-t.an];exact ht)
    rw[h2,ht]at hne
    exact absurd rfl hne
   |false=>
    refine⟨rfl,?_⟩
    cases hx:L rc'.ix with
    |true=>rfl
    |false=>rw[hx,ht]at hne;exact absurd rfl hne
  have hix:rc'.ix≠rc.ix:=λe=>by rw[e,hL]at hs;exact absurd hs.2 (by simp)
  have hback:tb rc'.an rc.ix=false:=by
   cases ht:tb rc'.an rc.ix with
   |false=>rfl
   |true=>
    obtain⟨t'⟩:=recs_at hR rc' h'
    have h2:L rc.ix=true:=anc_in hB hans hcl rc'.ix t'.o t'.op (hcl _ _ hs.2 t'.op) rc.ix (hlt rc hr) (by rw[<-t'.an];exact ht)
    rw[h2]at hL
    cases hL
  have hu:unord rc rc'=true:=by
   unfold unord
   rw[hs.1,hback,T.beq_no (λe=>hix e.symm)]
   rfl
  cases hl:look rc'.r.d n with
  |none=>rfl
  |some x=>
   have:=sepOk_at hsep hr h' hu (n:=n) (by rw[hl];simp)
   rw[hn]at this
   cases this
 unfold ovr at h1 ⊢
 rw[e2,e1]
 exact h1
theorem drawn_heap(hB:DagP ops)(hans:AnsP ops ans)(hsep:sepOk recs=true)(hR:RecsOk P ops ans nt H0 A0 k0 recs A' kE)(hlen:recs.length=ops.size)(hcl:Closed ops L){rc:Rec}(hr:rc∈recs)(t:At P ops ans nt H0 A0 k0 recs rc)
 (hL:L rc.ix=false)(_:∀e∈t.o.after,Region.binds .any e=true->L e.on=true){L':Nat->Bool}(hL':L' rc.ix=true)(hLo:∀j,j≠rc.ix->L' j=L j):ovr (dAll L' recs) H0=ovr rc.r.d (ovr (dAll L recs) H0):=by
 have hlt:∀rc'∈recs,rc'.ix<ops.size:=λrc' h'=>by rw[<-hlen];exact((recs_le hR).2 rc' h').2.2
 funext n
 cases hl:look rc.r.d n with
 |none=>
  have e1:look (dAll L' recs) n=look (dAll L recs) n:=by
   refine dAll_eq (λrc' h' hne=>?_)
   by_cases e:rc'.ix=rc.ix
   ·rw[recs_inj hR h' hr e];exact hl
   ·exact absurd (hLo _ e) hne
  rw[look_app hl]
  unfold ovr
  rw[e1]
 |some x=>
  have e1:look (dAll L' recs) n=some x:=by
   rw[t.is,dAll_skip (λrc' h' hx=>?_),look_dAll,hL',hl]
   ·rfl
   ·have hm:rc'∈recs:=by rw[t.is];exact List.mem_append_left _ h'
    have hix:rc'.ix≠rc.ix:=λe=>by have:=(t.frontIx rc' h').1;omega
    have hL2:L rc'.ix=true:=by rw[<-hLo _ hix];exact hx
    obtain⟨t'⟩:=recs_at hR rc' hm
    have hf:tb rc.an rc'.ix=false:=by
     cases ht:tb rc.an rc'.ix with
     |false=>rfl
     |true=>
      rw[t.an]at ht
      have:=(hans _ _ (hlt rc hr) ht).1
      have:=(t.frontIx rc' h').1
      omega
    have hback:tb rc'.an rc.ix=false:=by
     cases ht:tb rc'.an rc.ix with
     |false=>rfl
     |true=>
      have h2:L rc.ix=true:=anc_in hB hans hcl rc'.ix t'.o t'.op (hcl _ _ hL2 t'.op) rc.ix (hlt rc hr) (by rw[<-t'.an];exact ht)
      rw[h2]at hL
      cases hL
    have hu:unord rc rc'=true:=by
     unfold unord
     rw[hf,hback,T.beq_no (λe=>hix e.symm)]
     rfl
    have hu':unord rc' rc=true:=by
     unfold unord
     rw[hf,hback,T.beq_no hix]
     rfl
    cases hl':look rc'.r.d n with
    |none=>rfl
    |some y=>
     exfalso
     have h1:=sepOk_at hsep hr hm hu (n:=n) (by rw[hl'];simp)
     have h2:=sepOk_at hsep hm hr hu' (n:=n) (by rw[hl];simp)
     rcases t.ok.touch n (by rw[hl];simp)with h3|h3
     ·exact h3 h1
     ·rcases t'.ok.touch n (by rw[hl'];simp)with h4|h4
      ·exact h4 h2
      ·have:=(t.frontIx rc' h').2;omega
  unfold ovr
  rw[e1,hl]
theorem inv_step(hB:DagP ops)(hans:AnsP ops ans)(hsep:sepOk recs=true)(hR:RecsOk P ops ans nt H0 A0 k0 recs A' kE)(hlen:recs.length=ops.size)(hcl:Closed ops L)(hfree:Free ρ k0 kE)(hT:RelT ρ A0 nt a.tmps)
 (hI:Inv N ρ H0 w0 k0 kE ops recs a L a' W ρL){i:Nat}{o:Oper}(hi:ops[i]? =some o) (hL:L i=false) (hdeps:∀e∈o.after,Region.binds .any e=true->L e.on=true) {L':Nat->Bool} (hL':L' i=true) (hLo:∀j,j≠i->L' j=L j)
 (R:Option Nat) (n:Nat) (K:Act->World->Prop) (hK:∀a'' W'' ρ'',Inv N ρ H0 w0 k0 kE ops recs a L' a'' W'' ρ''->K a'' W''):wpOpIn (Fc R) n P ops Q i K a' W:=by
 obtain⟨rc,hr,hix⟩:=recs_ex hR i (by rw[hlen];exact(Array.getElem?_eq_some_iff.1 hi).1)
 subst hix
 obtain⟨t⟩:=recs_at hR rc hr
 have hto:t.o=o:=Option.some.inj (t.op.symm.trans hi)
 have hd:∀(i j:Nat)(oi oj:Oper)(t:Tmp),ops[i]? =some oi->ops[j]? =some oj->oi.dst=some t->oj.dst=some t->i=j:=λi j oi oj t hi hj=>hB.dist i j oi oj t hi hj
 have hsub:=drawn_sub hB hans hsep hR hlen hcl hr t hL (by rw[hto];exact hdeps)
 have hheap:=drawn_heap hB hans hsep hR hlen hcl hr t hL (by rw[hto];exact hdeps) hL' hLo
 have hin:∀rc'∈recs,rc'=rc\/rc'.ix≠rc.ix/\(rc'.r.k<=rc.k\/rc.r.k<=rc'.k):=λrc' h'=>by
  rw[t.is]at h'
  rcases List.mem_append.1 h' with h2|h2
  ·have:=t.frontIx rc' h2;exact .inr ⟨by omega,.inr this.2⟩
  ·rcases List.mem_cons.1 h2 with h3|h3
   ·exact .inl h3
   ·have:=t.preIx rc' h3;exact .inr ⟨by omega,.inl this.2⟩
 have hk1:=(recs_le t.before).1
 have hk2:=((recs_le hR).2 rc hr)
 have hfr:Free ρL rc.k rc.r.k:=λm h1 h2=>by
  rw[hI.names m (λrc' h' hl' h3=>by
   rcases hin rc' h' with rfl|⟨_,h4⟩
   ·rw[hL]at hl';cases hl'
   ·omega)]
  exact hfree m (by omega) (by omega)
 have hg:=recs_get hd t.before
 have hlooks:LooksT ρL t.A1 a' ops t.o:=λx hx=>by
  by_cases hex:∃rc'∈t.pre,∃o',ops[rc'.ix]? =some o'/\o'.dst=some x
  ·obtain⟨rc',h1,o',h2,h3⟩:=hex
   have hlt:=(t.preIx rc' h1).1
   obtain⟨e,he,hb,hon⟩:=(hB.look _ _ _ _ _ t.op h2 (by omega) h3 hx).1 hlt
   have hm:rc'∈recs:=by rw[t.is];simp[h1]
   rw[((hg x).1 rc' h1 o' h2 h3).1]
   exact hI.new rc' hm (by rw[<-hon];exact hdeps e (by rw[<-hto];exact he) hb) o' x h2 h3
  ·have hnone:∀rc'∈recs,L rc'.ix=true->∀o',ops[rc'.ix]? =some o'->o'.dst≠some x:=λrc' h' hl' o' h2 h3=>by
    have h'':=h'
    rw[t.is]at h''
    rcases List.mem_append.1 h'' with h4|h4
    ·have hgt:=(t.frontIx rc' h4).1
     obtain⟨e,he,hb,hon⟩:=(hB.look _ _ _ _ _ t.op h2 (by omega) h3 hx).2 (by omega)
     have:=hcl _ _ hl' h2 e he hb
     rw[hon,hL]at this
     cases this
    ·rcases List.mem_cons.1 h4 with h5|h5
     ·rw[h5,hL]at hl';cases hl'
     ·exact hex ⟨rc',h5,o',h2,h3⟩
   rw[hI.old x hnone,(hg x).2 (λrc' h' o' h2 h3=>hex ⟨rc',h',o',h2,h3⟩)]
   exact(hT.2 x).mono hI.post.le
 rw[<-hto]at hi
 refine t.ok.does R n rc.ix hi (hI.post.heap.sub hsub) hlooks hfr K Q (λv W' hout=>?_)
 obtain⟨ρ',p1,p2⟩:=hout.frame hsub hI.post.heap t.ok.touch hfr
 have hsz:∀x,t.o.dst=some x->x<a'.tmps.size:=λx hx=>by
  have h1:=t.dst
  rw[hx]at h1
  simp only[dstA]at h1
  cases hb:Nat.blt x nt with
  |false=>rw[hb]at h1;cases h1
  |true=>
   have:=Nat.le_of_ble_eq_true hb
   rw[hI.size,hT.1]
   exact this
 refine hK _ W' ρ' ⟨?_,λm hm=>?_,(put_size _ _ _).trans hI.size,(put_df _ _ _).trans hI.defers,λrc' h' hl' o' x h2 h3=>?_,λx hx=>?_⟩
 ·rw[hheap]
  exact hI.post.join p1 hk1 hk2.1
 ·rw[p1.only m (hm rc hr hL')]
  exact hI.names m (λrc' h' hl'=>hm rc' h' (by
   by_cases e:rc'.ix=rc.ix
   ·rw[e];exact hL'
   ·rw[hLo _ e];exact hl'))
 ·rcases hin rc' h' with rfl|⟨h4,_⟩
  ·rw[hi]at h2
   cases h2
   rw[h3,getD_put_eq (hsz x h3)]
   exact p2
  ·rw[getD_put_ne (λe=>h4 (hd _ _ _ _ x h2 hi h3 e))]
   exact(hI.new rc' h' (by rw[<-hLo _ h4];exact hl') o' x h2 h3).mono p1.le
 ·rw[getD_put_ne (hx rc hr hL' t.o hi)]
  exact hI.old x (λrc' h' hl'=>hx rc' h' (by
   by_cases e:rc'.ix=rc.ix
   ·rw[e];exact hL'
   ·rw[hLo _ e];exact hl'))
theorem all_nil(hB:DagP ops){listed:Array Bool}(hsz:listed.size=ops.size)(hr:Region.ready .any ops listed=[]):∀i,i<ops.size->listed.getD i true=true:=by
 intro i
 induction i using Nat.strongRecOn with
 |ind i ih=>
  intro hi
  cases hx:listed.getD i true with
  |true=>rfl
  |false=>
   have ho:ops[i]? =some ops[i]:=Array.getElem?_eq_getElem hi
   have hm:i∈Region.ready .any ops listed:=mem_ready.2 ⟨hx,_,ho,λe he hbb=>by
    have h1:=hB.back _ _ ho e he hbb
    have h2:=ih e.on h1 (by omega)
    have h3:e.on<listed.size:=by omega
    simpa[h3]using h2⟩
   rw[hr]at hm;cases hm
theorem any_ok(hB:DagP ops)(hans:AnsP ops ans)(hsep:sepOk recs=true)(hR:RecsOk P ops ans nt H0 A0 k0 recs A' kE)(hlen:recs.length=ops.size)(hfree:Free ρ k0 kE)(hT:RelT ρ A0 nt a.tmps)(R:Option Nat)(n:Nat)
 (hQ:∀(L:Nat->Bool)a' W' ρ',(∀i,i<ops.size->L i=true)->Inv N ρ H0 w0 k0 kE ops recs a L a' W' ρ'->Q .normal a' W'):
 ∀(fuel:Nat)(listed:Array Bool)(a':Act)(W:World)(ρL:Rho),listed.size=ops.size->unl ops.size listed<=fuel->Inv N ρ H0 w0 k0 kE ops recs a (λi=>listed.getD i false) a' W ρL->Closed ops (λi=>listed.getD i false)->wpAnyIn (Fc R) n P .any ops Q fuel listed a' W:=by
 have htf:∀(listed:Array Bool)(i:Nat),listed.size=ops.size->i<ops.size->(listed.getD i true=true↔listed.getD i false=true):=by
  intro listed i h1 h2
  have h3:i<listed.size:=by omega
  simp[h3]
 intro fuel
 induction fuel with
 |zero=>
  intro listed a' W ρL hsz hu hI hcl
  have hall:∀i,i<ops.size->listed.getD i true=true:=λi hi=>by
   cases hx:listed.getD i true with
   |true=>rfl
   |false=>have:=unl_pos hi hx;omega
  exact⟨ready_nil_of hall,hQ _ _ _ _ (λi hi=>(htf listed i hsz hi).1 (hall i hi)) hI⟩
 |succ fuel ih=>
  intro listed a' W ρL hsz hu hI hcl
  refine⟨λhr=>hQ _ _ _ _ (λi hi=>(htf listed i hsz hi).1 (all_nil hB hsz hr i hi)) hI,λi hi=>?_⟩
  obtain⟨hiu,o,ho,hdeps⟩:=mem_ready.1 hi
  have hio:i<ops.size:=(Array.getElem?_eq_some_iff.1 ho).1
  have hiF:listed.getD i false=false:=by
   cases hx:listed.getD i false with
   |false=>rfl
   |true=>rw[(htf listed i hsz hio).2 hx]at hiu;cases hiu
  have hset:∀j,j≠i->(listed.setIfInBounds i true).getD j false=listed.getD j false:=λj hj=>getD_set_ne false (λe=>hj e.symm)
  have hself:(listed.setIfInBounds i true).getD i false=true:=by
   have h3:i<listed.size:=by omega
   simp[h3]
  refine inv_step hB hans hsep hR hlen hcl hfree hT hI ho hiF hdeps hself hset R n _ (λa'' W'' ρ'' hI'=>?_)
  refine ih _ _ _ ρ'' (by simpa using hsz) ?_ hI' (λj oj hj hoj e he hb=>?_)
  ·have:=unl_set hio hiu;omega
  ·by_cases e2:e.on=i
   ·rw[e2];exact hself
   ·by_cases e3:j=i
    ·subst e3
     rw[ho]at hoj
     cases hoj
     exact(hset _ e2).trans (hdeps e he hb)
    ·have hj':listed.getD j false=true:=by rw[<-hset j e3];exact hj
     exact(hset _ e2).trans (hcl j oj hj' hoj e he hb)
end
def putAll(k0:Nat):List Rec->St->St
 |[],s=>s
 |rc::pre,s=>St.putD k0 rc.r.d (putAll k0 pre s)
theorem hp_putAll(k0:Nat)(H0:Hp)(s:St):∀recs:List Rec,(putAll k0 recs s).hp k0 H0=ovr (dAll (λ_=>true) recs) (s.hp k0 H0)/\(putAll k0 recs s).df=s.df
 |[]=>⟨rfl,rfl⟩
 |rc::pre=>by
  obtain⟨h1,h2⟩:=hp_putAll k0 H0 s pre
  refine⟨?_,(putD_A k0 rc.r.d _).2.2.trans h2⟩
  rw[putAll,hp_putD,h1]
  funext n
  unfold ovr
  rw[look_dAll]
  cases look rc.r.d n<;>rfl
def namesD:Dl->List Nat->List Nat
 |[],l=>l
 |(n,_)::d,l=>n::namesD d l
def maskOf(a:Rec):List Rec->List Nat
 |[]=>[]
 |c::l=>bif unord a c then namesD c.r.d (maskOf a l)else maskOf a l
def masksOf(cs:List Rec):List Rec->List (List Nat)->List (List Nat)
 |[],l=>l
 |a::az,l=>masksOf cs az (maskOf a cs::l)
def fin(k0:Nat)(s:St)(z:List Rec×T AV×Nat):Option St:=bif sepOk z.1 then some {putAll k0 z.1 s with A:=z.2.1,k:=z.2.2}else none
def orElse'(x y:Option St):Option St:=match x with
 |some s=>some s
 |none=>y
def evDraw(ev:Ev)(ds:List Dop)(k0:Nat)(H0:Hp)(nt:Nat)(s:St):Option St:=
 match evD ev (s.hp k0 H0) nt ds [] 0 [] s.A s.k with
 |some z=>orElse' (fin k0 s z) (match evD ev (s.hp k0 H0) nt ds (masksOf (chg z.1) z.1 []) 0 [] s.A s.k with
  |some z=>fin k0 s z
  |none=>none)
 |none=>none
theorem evDraw_is{ev:Ev}{ds:List Dop}{k0:Nat}{H0:Hp}{nt:Nat}{s s':St}(h:evDraw ev ds k0 H0 nt s=some s'):∃mks z,evD ev (s.hp k0 H0) nt ds mks 0 [] s.A s.k=some z/\sepOk z.1=true/\s'={putAll k0 z.1 s with A:=z.2.1,k:=z.2.2}:=by
 unfold evDraw at h
 have hfin:∀z,fin k0 s z=some s'->sepOk z.1=true/\s'={putAll k0 z.1 s with A:=z.2.1,k:=z.2.2}:=λz hz=>by
  unfold fin at hz
  cases hs:sepOk z.1 with
  |false=>rw[hs]at hz;cases hz
  |true=>rw[hs]at hz;cases hz;exact⟨rfl,rfl⟩
 split at h
 ·rename_i z hz
  cases hf:fin k0 s z with
  |some x=>
   rw[hf]at h
   cases h
   exact⟨[],z,hz,hfin z hf⟩
  |none=>
   rw[hf]at h
   simp only[orElse']at h
   split at h
   ·rename_i z2 hz2
    exact⟨_,z2,hz2,hfin z2 h⟩
   ·cases h
 ·cases h
theorem drawn_ok{ev:Ev}{P:Program}{ops:Array Oper}{ans:List Nat}{k0 nt:Nat}{H0:Hp}(hev:EvOk P ev)(hm:P.follows .mixedOrders=true)(hB:DagP ops)(hans:AnsP ops ans){s s':St}(h:evDraw ev (dops P ops.toList ops.toList ans) k0 H0 nt s=some s'):
 s.k<=s'.k/\∀{N:Nat}{ρ:Rho}{a:Act}{W:World}(R:Option Nat)(n id:Nat),StR N k0 nt H0 ρ s a W->Free ρ s.k s'.k->∀(Q:Exit->Act->World->Prop),(∀a' W',Ends N k0 nt H0 ρ s W s' a' W'->Q .normal a' W')->(Code.region id ops true).wpIn (Fc R) n P Q a W:=by
 obtain⟨mks,z,hz,hsep,rfl⟩:=evDraw_is h
 obtain⟨hR,hlen⟩:=evD_ok (k0:=s.k) (A0:=s.A) (H0:=s.hp k0 H0) (nt:=nt) (ans:=ans) hev ops.toList mks [] s.A s.k z rfl ⟨rfl,rfl⟩ hz
 have hlen':z.1.length=ops.size:=by rw[hlen];simp
 refine⟨(recs_le hR).1,λ{N ρ a W}R n id hs hf Q hQ=>?_⟩
 have hf:Free ρ s.k z.2.2:=hf
 have hd:∀(i j:Nat)(oi oj:Oper)(t:Tmp),ops[i]? =some oi->ops[j]? =some oj->oi.dst=some t->oj.dst=some t->i=j:=λi j oi oj t hi hj=>hB.dist i j oi oj t hi hj
 have hno:∀i,(λi=>(Array.replicate ops.size false).getD i false) i=true->False:=λi hi=>repl_no _ _ hi
 refine wpIn_region_any hm (any_ok (N:=N) (w0:=W) hB hans hsep hR hlen' hf hs.tmps R n (λL a' W' ρ' hall hI=>?_) ops.size _ a _ ρ (by simp) ?_ ⟨?_,λ_ _=>rfl,rfl,rfl,λrc _ hL=>(hno _ hL).elim,λ_ _=>rfl⟩ (λi _ hL=>(hno _ hL).elim))
 ·have hLt:∀rc∈z.1,L rc.ix=true:=λrc hr=>hall _ (by rw[<-hlen'];exact((recs_le hR).2 rc hr).2.2)
  have hh:ovr (dAll L z.1) (s.hp k0 H0)=ovr (dAll (λ_=>true) z.1) (s.hp k0 H0):=by
   funext n
   unfold ovr
   rw[dAll_eq (L:=L) (L':=λ_=>true) (λrc hr hne=>absurd (hLt rc hr) hne)]
  refine hQ a' W' ⟨ρ',?_,⟨hI.size.trans hs.tmps.1,λt=>?_⟩,?_⟩
  ·show Post N ρ (s.hp k0 H0) W ((putAll k0 z.1 s).hp k0 H0) s.k z.2.2 ρ' W'
   rw[(hp_putAll k0 H0 s z.1).1,<-hh]
   exact hI.post
  ·have hg:=recs_get hd hR t
   by_cases hex:∃rc∈z.1,∃o,ops[rc.ix]? =some o/\o.dst=some t
   ·obtain⟨rc,h1,o,h2,h3⟩:=hex
    show RelV ρ' ((z.2.1.get t).getD .dead) _
    rw[(hg.1 rc h1 o h2 h3).1]
    exact hI.new rc h1 (hLt rc h1) o t h2 h3
   ·show RelV ρ' ((z.2.1.get t).getD .dead) _
    rw[hg.2 (λrc h1 o h2 h3=>hex ⟨rc,h1,o,h2,h3⟩),hI.old t (λrc h1 _ o h2 h3=>hex ⟨rc,h1,o,h2,h3⟩)]
    exact(hs.tmps.2 t).mono hI.post.le
  ·show DfR ρ' (putAll k0 z.1 s).df a'.defers
   rw[(hp_putAll k0 H0 s z.1).2,hI.defers]
   exact hs.defers.mono hI.post.le
 ·unfold unl
  exact Nat.le_trans (List.countP_le_length) (by simp)
 ·have hnil:∀recs:List Rec,dAll (λi=>(Array.replicate ops.size false).getD i false) recs=[]:=λrecs=>by
   induction recs with
   |nil=>rfl
   |cons rc l ih=>
    rw[dAll_cons]
    cases rc.r.d with
    |nil=>exact ih
    |cons p d=>
     have:(Array.replicate ops.size false).getD rc.ix false=false:=by
      cases hx:(Array.replicate ops.size false).getD rc.ix false with
      |false=>rfl
      |true=>exact(repl_no _ _ hx).elim
     simp only[this,cond_false]
     exact ih
  rw[hnil,app_nil]
  exact(Post.same hs.heap ((brefl W).drew)).more (recs_le hR).1
end
end Go.Proofs.YtifehdoghfnhoaaGreatDoor.Ev
