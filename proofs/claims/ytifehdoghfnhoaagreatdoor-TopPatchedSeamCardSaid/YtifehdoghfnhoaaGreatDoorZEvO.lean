/- Closed calls are reckoned by the kernel: code. -/
import Derived.Test.YtifehdoghfnhoaaGreatDoorZEvM
import Derived.LoopNIn
namespace Go.Proofs.YtifehdoghfnhoaaGreatDoor.Ev
noncomputable section
open Go.RowKit Go.Shelf
theorem Post.join{N:Nat}{ρ ρ' ρ'':Rho}{H H' H'':Hp}{W W' W'':World}{k K j j':Nat}(h:Post N ρ H W H' k K ρ' W')(h':Post N ρ' H' W' H'' j j' ρ'' W'')(hk:k<=j)(hk':j'<=K):Post N ρ H W H'' k K ρ'' W'':=by
 refine⟨h.le.trans h'.le,λn hn=>(h'.only n (by omega)).trans (h.only n hn),h'.heap,?_,λb hb=>?_⟩
 ·refine⟨h'.keep.os.trans h.keep.os,h'.keep.tape.trans h.keep.tape,h'.keep.output.trans h.keep.output,Nat.le_trans h.keep.size h'.keep.size,λb hb hn=>?_⟩
  refine(h'.keep.block b (Nat.lt_of_lt_of_le hb h.keep.size) (λhi=>?_)).trans (h.keep.block b hb hn)
  rcases h.from_ b hi with h1|h1
  ·exact hn h1
  ·omega
 ·rcases h'.from_ b hb with h1|h1
  ·exact h.from_ b h1
  ·exact .inr (Nat.le_trans h.keep.size h1)
theorem getD_put_ne{a:Act}{d:Option Tmp}{v:Value}{t:Nat}(h:d≠some t):(a.put d v).tmps.getD t undef=a.tmps.getD t undef:=by
 cases d with
 |none=>rfl
 |some d=>
  have hne:d≠t:=λe=>h (by rw[e])
  simp only[Act.put,Array.getD_eq_getD_getElem?,Array.getElem?_setIfInBounds_ne hne]
theorem getD_put_eq{a:Act}{v:Value}{t:Nat}(h:t<a.tmps.size):(a.put (some t) v).tmps.getD t undef=v:=by
 simp only[Act.put,Array.getD_eq_getD_getElem?,Array.getElem?_setIfInBounds_self_of_lt h,Option.getD_some]
theorem put_size(a:Act)(d:Option Tmp)(v:Value):(a.put d v).tmps.size=a.tmps.size:=by cases d<;>simp[Act.put]
section
variable{P:Program}{ops:Array Oper}{ans:List Nat}{nt:Nat}{H0:Hp}{A0 A':T AV}{k0 kE:Nat}{N:Nat}{ρ ρL:Rho}{a a':Act}{w0 W:World}{recs:List Rec}{L:Nat->Bool}{Q:Exit->Act->World->Prop}
structure Inv(N:Nat)(ρ:Rho)(H0:Hp)(w0:World)(k0 kE:Nat)(ops:Array Oper)(recs:List Rec)(a:Act)(L:Nat->Bool)(a':Act)(W:World)(ρL:Rho):Prop where
 post:Post N ρ H0 w0 (ovr (dAll L recs) H0) k0 kE ρL W
 names:∀n,(∀rc∈recs,L rc.ix=true->¬(rc.k<=n/\n<rc.r.k))->ρL n=ρ n
 size:a'.tmps.size=a.tmps.size
 defers:a'.defers=a.defers
 new:∀rc∈recs,L rc.ix=true->∀o t,ops[rc.ix]? =some o->o.dst=some t->RelV ρL rc.r.v (a'.tmps.getD t undef)
 old:∀t,(∀rc∈recs,L rc.ix=true->∀o,ops[rc.ix]? =some o->o.dst≠some t)->a'.tmps.getD t undef=a.tmps.getD t undef
def Closed(ops:Array Oper)(L:Nat->Bool):Prop:=∀i o,L i=true->ops[i]? =some o->∀e∈o.after,Region.binds .any e=true->L e.on=true
theorem anc_in(hB:DagP ops)(hans:AnsP ops ans)(hcl:Closed ops L):∀(i:Nat)(o:Oper),ops[i]? =some o->(∀e∈o.after,Region.binds .any e=true->L e.on=true)->∀j,j<ops.size->tb (hdN (ans.drop i)) j=true->L j=true:=by
 intro i
 induction i using Nat.strongRecOn with
 |ind i ih=>
  intro o ho hdeps j hj ht
  have hi:i<ops.size:=(Array.getElem?_eq_some_iff.1 ho).1
  obtain⟨e,he,hb,hx⟩:=(hans i j hi ht).2 o ho
  rcases hx with hx|hx
  ·rw[<-hx];exact hdeps e he hb
  ·have hlt:=hB.back _ _ ho e he hb
   have hoe:ops[e.on]? =some ops[e.on]:=Array.getElem?_eq_getElem (by omega)
   exact ih e.on hlt _ hoe (hcl _ _ (hdeps e he hb) hoe) j hj hx
theorem drawn_sub(hB:DagP ops)(hans:AnsP ops ans)(hsep:sepOk recs=true)(hR:RecsOk P ops ans nt H0 A0 k0 recs A' kE)(hlen:recs.length=ops.size)(hcl:Closed ops L){rc:Rec}(hr:rc∈recs)(t:At P ops ans nt H0 A0 k0 recs rc)
 (hL:L rc.ix=false)(hdeps:∀e∈t.o.after,Region.binds .any e=true->L e.on=true):Sub rc.hp (ovr (dAll L recs) H0):=by
 intro n o hn
 have hlt:∀rc'∈recs,rc'.ix<ops.size:=λrc' h'=>by rw[<-hlen];exact((recs_le hR).2 rc' h').2.2
 have h1:=t.sub n o hn
 have e1:look (dAll (tb rc.an) recs) n=look (dAll (tb rc.an) t.pre) n:=by
  conv=>lhs;rw[t.is,show t.front++rc::t.pre=(t.front++[rc])++t.pre by simp]
  refine dAll_skip (λrc' h' ht=>?_)
  have hm:rc'∈recs:=by
   rw[t.is]
   rcases List.mem_append.1 h' with h2|h2
   ·exact List.mem_append_left _ h2
   ·rw[List.mem_singleton.1 h2];simp
  rw[t.an]at ht
  have hlt':=(hans _ _ (hlt rc hr) ht).1
  rcases List.mem_append.1 h' with h2|h2
  ·have:=(t.frontIx rc' h2).1;omega
  ·rw[List.mem_singleton.1 h2]at hlt';omega
 have e2:look (dAll L recs) n=look (dAll (tb rc.an) recs) n:=by
  refine dAll_eq (λrc' h' hne=>?_)
  have hs:tb rc.an rc'.ix=false/\L rc'.ix=true:=by
   cases ht:tb rc.an rc'.ix with
   |true=>
    have h2:L rc'.ix=true:=anc_in hB hans hcl rc.ix t.o t.op hdeps rc'.ix (hlt rc' h') (by rw[<-t.an];exact ht)
    rw[h2,ht]at hne
    exact absurd rfl hne
   |false=>
    refine⟨rfl,?_⟩
    cases hx:L rc'.ix with
    |true=>rfl
    |false=>rw[hx,ht]at hne;exact absurd rfl hne
  have hix:rc'.ix≠rc.ix:=λe=>by rw[e,hL]at hs;exact absurd hs.2 (by simp)
  have hback:tb rc'.an rc.ix=false:=by
   cases ht:tb rc'.an rc.ix with
   |false=>rfl
   |true=>
    obtain⟨t'⟩:=recs_at hR rc' h'
    have h2:L rc.ix=true:=anc_in hB hans hcl rc'.ix t'.o t'.op (hcl _ _ hs.2 t'.op) rc.ix (hlt rc hr) (by rw[<-t'.an];exact ht)
    rw[h2]at hL
    cases hL
  have hu:unord rc rc'=true:=by
   unfold unord
   rw[hs.1,hback,T.beq_no (λe=>hix e.symm)]
   rfl
  cases hl:look rc'.r.d n with
  |none=>rfl
  |some x=>
   have:=sepOk_at hsep hr h' hu (n:=n) (by rw[hl];simp)
   rw[hn]at this
   cases this
 unfold ovr at h1 ⊢
 rw[e2,e1]
 exact h1
theorem drawn_heap(hB:DagP ops)(hans:AnsP ops ans)(hsep:sepOk recs=true)(hR:RecsOk P ops ans nt H0 A0 k0 recs A' kE)(hlen:recs.length=ops.size)(hcl:Closed ops L){rc:Rec}(hr:rc∈recs)(t:At P ops ans nt H0 A0 k0 recs rc)
 (hL:L rc.ix=false)(_:∀e∈t.o.after,Region.binds .any e=true->L e.on=true){L':Nat->Bool}(hL':L' rc.ix=true)(hLo:∀j,j≠rc.ix->L' j=L j):ovr (dAll L' recs) H0=ovr rc.r.d (ovr (dAll L recs) H0):=by
 have hlt:∀rc'∈recs,rc'.ix<ops.size:=λrc' h'=>by rw[<-hlen];exact((recs_le hR).2 rc' h').2.2
 funext n
 cases hl:look rc.r.d n with
 |none=>
  have e1:look (dAll L' recs) n=look (dAll L recs) n:=by
   refine dAll_eq (λrc' h' hne=>?_)
   by_cases e:rc'.ix=rc.ix
   ·rw[recs_inj hR h' hr e];exact hl
   ·exact absurd (hLo _ e) hne
  rw[look_app hl]
  unfold ovr
  rw[e1]
 |some x=>
  have e1:look (dAll L' recs) n=some x:=by
   rw[t.is,dAll_skip (λrc' h' hx=>?_),look_dAll,hL',hl]
   ·rfl
   ·have hm:rc'∈recs:=by rw[t.is];exact List.mem_append_left _ h'
    have hix:rc'.ix≠rc.ix:=λe=>by have:=(t.frontIx rc' h').1;omega
    have hL2:L rc'.ix=true:=by rw[<-hLo _ hix];exact hx
    obtain⟨t'⟩:=recs_at hR rc' hm
    have hf:tb rc.an rc'.ix=false:=by
     cases ht:tb rc.an rc'.ix with
     |false=>rfl
     |true=>
      rw[t.an]at ht
      have:=(hans _ _ (hlt rc hr) ht).1
      have:=(t.frontIx rc' h').1
      omega
    have hback:tb rc'.an rc.ix=false:=by
     cases ht:tb rc'.an rc.ix with
     |false=>rfl
     |true=>
      have h2:L rc.ix=true:=anc_in hB hans hcl rc'.ix t'.o t'.op (hcl _ _ hL2 t'.op) rc.ix (hlt rc hr) (by rw[<-t'.an];exact ht)
      rw[h2]at hL
      cases hL
    have hu:unord rc rc'=true:=by
     unfold unord
     rw[hf,hback,T.beq_no (λe=>hix e.symm)]
     rfl
    have hu':unord rc' rc=true:=by
     unfold unord
     rw[hf,hback,T.beq_no hix]
     rfl
    cases hl':look rc'.r.d n with
    |none=>rfl
    |some y=>
     exfalso
     have h1:=sepOk_at hsep hr hm hu (n:=n) (by rw[hl'];simp)
     have h2:=sepOk_at hsep hm hr hu' (n:=n) (by rw[hl];simp)
     rcases t.ok.touch n (by rw[hl];simp)with h3|h3
     ·exact h3 h1
     ·rcases t'.ok.touch n (by rw[hl'];simp)with h4|h4
      ·exact h4 h2
      ·have:=(t.frontIx rc' h').2;omega
  unfold ovr
  rw[e1,hl]
theorem inv_step(hB:DagP ops)(hans:AnsP ops ans)(hsep:sepOk recs=true)(hR:RecsOk P ops ans nt H0 A0 k0 recs A' kE)(hlen:recs.length=ops.size)(hcl:Closed ops L)(hfree:Free ρ k0 kE)(hT:RelT ρ A0 nt a.tmps)
 (hI:Inv N ρ H0 w0 k0 kE ops recs a L a' W ρL){i:Nat}{o:Oper}(hi:ops[i]? =some o) (hL:L i=false) (hdeps:∀e∈o.after,Region.binds .any e=true->L e.on=true) {L':Nat->Bool} (hL':L' i=true) (hLo:∀j,j≠i->L' j=L j)
 (R:Option Nat) (n:Nat) (K:Act->World->Prop) (hK:∀a'' W'' ρ'',Inv N ρ H0 w0 k0 kE ops recs a L' a'' W'' ρ''->K a'' W''):wpOpIn (Fc R) n P ops Q i K a' W:=by
 obtain⟨rc,hr,hix⟩:=recs_ex hR i (by rw[hlen];exact(Array.getElem?_eq_some_iff.1 hi).1)
 subst hix
 obtain⟨t⟩:=recs_at hR rc hr
 have hto:t.o=o:=Option.some.inj (t.op.symm.trans hi)
 have hd:∀(i j:Nat)(oi oj:Oper)(t:Tmp),ops[i]? =some oi->ops[j]? =some oj->oi.dst=some t->oj.dst=some t->i=j:=λi j oi oj t hi hj=>hB.dist i j oi oj t hi hj
 have hsub:=drawn_sub hB hans hsep hR hlen hcl hr t hL (by rw[hto];exact hdeps)
 have hheap:=drawn_heap hB hans hsep hR hlen hcl hr t hL (by rw[hto];exact hdeps) hL' hLo
 have hin:∀rc'∈recs,rc'=rc\/rc'.ix≠rc.ix/\(rc'.r.k<=rc.k\/rc.r.k<=rc'.k):=λrc' h'=>by
  rw[t.is]at h'
  rcases List.mem_append.1 h' with h2|h2
  ·have:=t.frontIx rc' h2;exact .inr ⟨by omega,.inr this.2⟩
  ·rcases List.mem_cons.1 h2 with h3|h3
   ·exact .inl h3
   ·have:=t.preIx rc' h3;exact .inr ⟨by omega,.inl this.2⟩
 have hk1:=(recs_le t.before).1
 have hk2:=((recs_le hR).2 rc hr)
 have hfr:Free ρL rc.k rc.r.k:=λm h1 h2=>by
  rw[hI.names m (λrc' h' hl' h3=>by
   rcases hin rc' h' with rfl|⟨_,h4⟩
   ·rw[hL]at hl';cases hl'
   ·omega)]
  exact hfree m (by omega) (by omega)
 have hg:=recs_get hd t.before
 have hlooks:LooksT ρL t.A1 a' ops t.o:=λx hx=>by
  by_cases hex:∃rc'∈t.pre,∃o',ops[rc'.ix]? =some o'/\o'.dst=some x
  ·obtain⟨rc',h1,o',h2,h3⟩:=hex
   have hlt:=(t.preIx rc' h1).1
   obtain⟨e,he,hb,hon⟩:=(hB.look _ _ _ _ _ t.op h2 (by omega) h3 hx).1 hlt
   have hm:rc'∈recs:=by rw[t.is];simp[h1]
   rw[((hg x).1 rc' h1 o' h2 h3).1]
   exact hI.new rc' hm (by rw[<-hon];exact hdeps e (by rw[<-hto];exact he) hb) o' x h2 h3
  ·have hnone:∀rc'∈recs,L rc'.ix=true->∀o',ops[rc'.ix]? =some o'->o'.dst≠some x:=λrc' h' hl' o' h2 h3=>by
    have h'':=h'
    rw[t.is]at h''
    rcases List.mem_append.1 h'' with h4|h4
    ·have hgt:=(t.frontIx rc' h4).1
     obtain⟨e,he,hb,hon⟩:=(hB.look _ _ _ _ _ t.op h2 (by omega) h3 hx).2 (by omega)
     have:=hcl _ _ hl' h2 e he hb
     rw[hon,hL]at this
     cases this
    ·rcases List.mem_cons.1 h4 with h5|h5
     ·rw[h5,hL]at hl';cases hl'
     ·exact hex ⟨rc',h5,o',h2,h3⟩
   rw[hI.old x hnone,(hg x).2 (λrc' h' o' h2 h3=>hex ⟨rc',h',o',h2,h3⟩)]
   exact(hT.2 x).mono hI.post.le
 rw[<-hto]at hi
 refine t.ok.does R n rc.ix hi (hI.post.heap.sub hsub) hlooks hfr K Q (λv W' hout=>?_)
 obtain⟨ρ',p1,p2⟩:=hout.frame hsub hI.post.heap t.ok.touch hfr
 have hsz:∀x,t.o.dst=some x->x<a'.tmps.size:=λx hx=>by
  have h1:=t.dst
  rw[hx]at h1
  simp only[dstA]at h1
  cases hb:Nat.blt x nt with
  |false=>rw[hb]at h1;cases h1
  |true=>
   have:=Nat.le_of_ble_eq_true hb
   rw[hI.size,hT.1]
   exact this
 refine hK _ W' ρ' ⟨?_,λm hm=>?_,(put_size _ _ _).trans hI.size,(put_df _ _ _).trans hI.defers,λrc' h' hl' o' x h2 h3=>?_,λx hx=>?_⟩
 ·rw[hheap]
  exact hI.post.join p1 hk1 hk2.1
 ·rw[p1.only m (hm rc hr hL')]
  exact hI.names m (λrc' h' hl'=>hm rc' h' (by
   by_cases e:rc'.ix=rc.ix
   ·rw[e];exact hL'
   ·rw[hLo _ e];exact hl'))
 ·rcases hin rc' h' with rfl|⟨h4,_⟩
  ·rw[hi]at h2
   cases h2
   rw[h3,getD_put_eq (hsz x h3)]
   exact p2
  ·rw[getD_put_ne (λe=>h4 (hd _ _ _ _ x h2 hi h3 e))]
   exact(hI.new rc' h' (by rw[<-hLo _ h4];exact hl') o' x h2 h3).mono p1.le
 ·rw[getD_put_ne (hx rc hr hL' t.o hi)]
  exact hI.old x (λrc' h' hl'=>hx rc' h' (by
   by_cases e:rc'.ix=rc.ix
   ·rw[e];exact hL'
   ·rw[hLo _ e];exact hl'))
theorem all_nil(hB:DagP ops){listed:Array Bool}(hsz:listed.size=ops.size)(hr:Region.ready .any ops listed=[]):∀i,i<ops.size->listed.getD i true=true:=by
 intro i
 induction i using Nat.strongRecOn with
 |ind i ih=>
  intro hi
  cases hx:listed.getD i true with
  |true=>rfl
  |false=>
   have ho:ops[i]? =some ops[i]:=Array.getElem?_eq_getElem hi
   have hm:i∈Region.ready .any ops listed:=mem_ready.2 ⟨hx,_,ho,λe he hbb=>by
    have h1:=hB.back _ _ ho e he hbb
    have h2:=ih e.on h1 (by omega)
    have h3:e.on<listed.size:=by omega
    simpa[h3]using h2⟩
   rw[hr]at hm;cases hm
theorem any_ok(hB:DagP ops)(hans:AnsP ops ans)(hsep:sepOk recs=true)(hR:RecsOk P ops ans nt H0 A0 k0 recs A' kE)(hlen:recs.length=ops.size)(hfree:Free ρ k0 kE)(hT:RelT ρ A0 nt a.tmps)(R:Option Nat)(n:Nat)
 (hQ:∀(L:Nat->Bool)a' W' ρ',(∀i,i<ops.size->L i=true)->Inv N ρ H0 w0 k0 kE ops recs a L a' W' ρ'->Q .normal a' W'):
 ∀(fuel:Nat)(listed:Array Bool)(a':Act)(W:World)(ρL:Rho),listed.size=ops.size->unl ops.size listed<=fuel->Inv N ρ H0 w0 k0 kE ops recs a (λi=>listed.getD i false) a' W ρL->Closed ops (λi=>listed.getD i false)->wpAnyIn (Fc R) n P .any ops Q fuel listed a' W:=by
 have htf:∀(listed:Array Bool)(i:Nat),listed.size=ops.size->i<ops.size->(listed.getD i true=true↔listed.getD i false=true):=by
  intro listed i h1 h2
  have h3:i<listed.size:=by omega
  simp[h3]
 intro fuel
 induction fuel with
 |zero=>
  intro listed a' W ρL hsz hu hI hcl
  have hall:∀i,i<ops.size->listed.getD i true=true:=λi hi=>by
   cases hx:listed.getD i true with
   |true=>rfl
   |false=>have:=unl_pos hi hx;omega
  exact⟨ready_nil_of hall,hQ _ _ _ _ (λi hi=>(htf listed i hsz hi).1 (hall i hi)) hI⟩
 |succ fuel ih=>
  intro listed a' W ρL hsz hu hI hcl
  refine⟨λhr=>hQ _ _ _ _ (λi hi=>(htf listed i hsz hi).1 (all_nil hB hsz hr i hi)) hI,λi hi=>?_⟩
  obtain⟨hiu,o,ho,hdeps⟩:=mem_ready.1 hi
  have hio:i<ops.size:=(Array.getElem?_eq_some_iff.1 ho).1
  have hiF:listed.getD i false=false:=by
   cases hx:listed.getD i false with
   |false=>rfl
   |true=>rw[(htf listed i hsz hio).2 hx]at hiu;cases hiu
  have hset:∀j,j≠i->(listed.setIfInBounds i true).getD j false=listed.getD j false:=λj hj=>getD_set_ne false (λe=>hj e.symm)
  have hself:(listed.setIfInBounds i true).getD i false=true:=by
   have h3:i<listed.size:=by omega
   simp[h3]
  refine inv_step hB hans hsep hR hlen hcl hfree hT hI ho hiF hdeps hself hset R n _ (λa'' W'' ρ'' hI'=>?_)
  refine ih _ _ _ ρ'' (by simpa using hsz) ?_ hI' (λj oj hj hoj e he hb=>?_)
  ·have:=unl_set hio hiu;omega
  ·by_cases e2:e.on=i
   ·rw[e2];exact hself
   ·by_cases e3:j=i
    ·subst e3
     rw[ho]at hoj
     cases hoj
     exact(hset _ e2).trans (hdeps e he hb)
    ·have hj':listed.getD j false=true:=by rw[<-hset j e3];exact hj
     exact(hset _ e2).trans (hcl j oj hj' hoj e he hb)
end
def putAll(k0:Nat):List Rec->St->St
 |[],s=>s
 |rc::pre,s=>St.putD k0 rc.r.d (putAll k0 pre s)
theorem hp_putAll(k0:Nat)(H0:Hp)(s:St):∀recs:List Rec,(putAll k0 recs s).hp k0 H0=ovr (dAll (λ_=>true) recs) (s.hp k0 H0)/\(putAll k0 recs s).df=s.df
 |[]=>⟨rfl,rfl⟩
 |rc::pre=>by
  obtain⟨h1,h2⟩:=hp_putAll k0 H0 s pre
  refine⟨?_,(putD_A k0 rc.r.d _).2.2.trans h2⟩
  rw[putAll,hp_putD,h1]
  funext n
  unfold ovr
  rw[look_dAll]
  cases look rc.r.d n<;>rfl
def namesD:Dl->List Nat->List Nat
 |[],l=>l
 |(n,_)::d,l=>n::namesD d l
def maskOf(a:Rec):List Rec->List Nat
 |[]=>[]
 |c::l=>bif unord a c then namesD c.r.d (maskOf a l)else maskOf a l
def masksOf(cs:List Rec):List Rec->List (List Nat)->List (List Nat)
 |[],l=>l
 |a::az,l=>masksOf cs az (maskOf a cs::l)
def fin(k0:Nat)(s:St)(z:List Rec×T AV×Nat):Option St:=bif sepOk z.1 then some {putAll k0 z.1 s with A:=z.2.1,k:=z.2.2}else none
def orElse'(x y:Option St):Option St:=match x with
 |some s=>some s
 |none=>y
def evDraw(ev:Ev)(ds:List Dop)(k0:Nat)(H0:Hp)(nt:Nat)(s:St):Option St:=
 match evD ev (s.hp k0 H0) nt ds [] 0 [] s.A s.k with
 |some z=>orElse' (fin k0 s z) (match evD ev (s.hp k0 H0) nt ds (masksOf (chg z.1) z.1 []) 0 [] s.A s.k with
  |some z=>fin k0 s z
  |none=>none)
 |none=>none
theorem evDraw_is{ev:Ev}{ds:List Dop}{k0:Nat}{H0:Hp}{nt:Nat}{s s':St}(h:evDraw ev ds k0 H0 nt s=some s'):∃mks z,evD ev (s.hp k0 H0) nt ds mks 0 [] s.A s.k=some z/\sepOk z.1=true/\s'={putAll k0 z.1 s with A:=z.2.1,k:=z.2.2}:=by
 unfold evDraw at h
 have hfin:∀z,fin k0 s z=some s'->sepOk z.1=true/\s'={putAll k0 z.1 s with A:=z.2.1,k:=z.2.2}:=λz hz=>by
  unfold fin at hz
  cases hs:sepOk z.1 with
  |false=>rw[hs]at hz;cases hz
  |true=>rw[hs]at hz;cases hz;exact⟨rfl,rfl⟩
 split at h
 ·rename_i z hz
  cases hf:fin k0 s z with
  |some x=>
   rw[hf]at h
   cases h
   exact⟨[],z,hz,hfin z hf⟩
  |none=>
   rw[hf]at h
   simp only[orElse']at h
   split at h
   ·rename_i z2 hz2
    exact⟨_,z2,hz2,hfin z2 h⟩
   ·cases h
 ·cases h
theorem drawn_ok{ev:Ev}{P:Program}{ops:Array Oper}{ans:List Nat}{k0 nt:Nat}{H0:Hp}(hev:EvOk P ev)(hm:P.follows .mixedOrders=true)(hB:DagP ops)(hans:AnsP ops ans){s s':St}(h:evDraw ev (dops P ops.toList ops.toList ans) k0 H0 nt s=some s'):
 s.k<=s'.k/\∀{N:Nat}{ρ:Rho}{a:Act}{W:World}(R:Option Nat)(n id:Nat),StR N k0 nt H0 ρ s a W->Free ρ s.k s'.k->∀(Q:Exit->Act->World->Prop),(∀a' W',Ends N k0 nt H0 ρ s W s' a' W'->Q .normal a' W')->(Code.region id ops true).wpIn (Fc R) n P Q a W:=by
 obtain⟨mks,z,hz,hsep,rfl⟩:=evDraw_is h
 obtain⟨hR,hlen⟩:=evD_ok (k0:=s.k) (A0:=s.A) (H0:=s.hp k0 H0) (nt:=nt) (ans:=ans) hev ops.toList mks [] s.A s.k z rfl ⟨rfl,rfl⟩ hz
 have hlen':z.1.length=ops.size:=by rw[hlen];simp
 refine⟨(recs_le hR).1,λ{N ρ a W}R n id hs hf Q hQ=>?_⟩
 have hf:Free ρ s.k z.2.2:=hf
 have hd:∀(i j:Nat)(oi oj:Oper)(t:Tmp),ops[i]? =some oi->ops[j]? =some oj->oi.dst=some t->oj.dst=some t->i=j:=λi j oi oj t hi hj=>hB.dist i j oi oj t hi hj
 have hno:∀i,(λi=>(Array.replicate ops.size false).getD i false) i=true->False:=λi hi=>repl_no _ _ hi
 refine wpIn_region_any hm (any_ok (N:=N) (w0:=W) hB hans hsep hR hlen' hf hs.tmps R n (λL a' W' ρ' hall hI=>?_) ops.size _ a _ ρ (by simp) ?_ ⟨?_,λ_ _=>rfl,rfl,rfl,λrc _ hL=>(hno _ hL).elim,λ_ _=>rfl⟩ (λi _ hL=>(hno _ hL).elim))
 ·have hLt:∀rc∈z.1,L rc.ix=true:=λrc hr=>hall _ (by rw[<-hlen'];exact((recs_le hR).2 rc hr).2.2)
  have hh:ovr (dAll L z.1) (s.hp k0 H0)=ovr (dAll (λ_=>true) z.1) (s.hp k0 H0):=by
   funext n
   unfold ovr
   rw[dAll_eq (L:=L) (L':=λ_=>true) (λrc hr hne=>absurd (hLt rc hr) hne)]
  refine hQ a' W' ⟨ρ',?_,⟨hI.size.trans hs.tmps.1,λt=>?_⟩,?_⟩
  ·show Post N ρ (s.hp k0 H0) W ((putAll k0 z.1 s).hp k0 H0) s.k z.2.2 ρ' W'
   rw[(hp_putAll k0 H0 s z.1).1,<-hh]
   exact hI.post
  ·have hg:=recs_get hd hR t
   by_cases hex:∃rc∈z.1,∃o,ops[rc.ix]? =some o/\o.dst=some t
   ·obtain⟨rc,h1,o,h2,h3⟩:=hex
    show RelV ρ' ((z.2.1.get t).getD .dead) _
    rw[(hg.1 rc h1 o h2 h3).1]
    exact hI.new rc h1 (hLt rc h1) o t h2 h3
   ·show RelV ρ' ((z.2.1.get t).getD .dead) _
    rw[hg.2 (λrc h1 o h2 h3=>hex ⟨rc,h1,o,h2,h3⟩),hI.old t (λrc h1 _ o h2 h3=>hex ⟨rc,h1,o,h2,h3⟩)]
    exact(hs.tmps.2 t).mono hI.post.le
  ·show DfR ρ' (putAll k0 z.1 s).df a'.defers
   rw[(hp_putAll k0 H0 s z.1).2,hI.defers]
   exact hs.defers.mono hI.post.le
 ·unfold unl
  exact Nat.le_trans (List.countP_le_length) (by simp)
 ·have hnil:∀recs:List Rec,dAll (λi=>(Array.replicate ops.size false).getD i false) recs=[]:=λrecs=>by
   induction recs with
   |nil=>rfl
   |cons rc l ih=>
    rw[dAll_cons]
    cases rc.r.d with
    |nil=>exact ih
    |cons p d=>
     have:(Array.replicate ops.size false).getD rc.ix false=false:=by
      cases hx:(Array.replicate ops.size false).getD rc.ix false with
      |false=>rfl
      |true=>exact(repl_no _ _ hx).elim
     simp only[this,cond_false]
     exact ih
  rw[hnil,app_nil]
  exact(Post.same hs.heap ((brefl W).drew)).more (recs_le hR).1
end
end Go.Proofs.YtifehdoghfnhoaaGreatDoor.Ev
namespace Go.Proofs.YtifehdoghfnhoaaGreatDoor.Ev
noncomputable section
open Go.RowKit Go.Shelf
theorem wpIn_scope{F:Fence}{n:Nat}{P:Program}{Q:Exit->Act->World->Prop}{a:Act}{w:World}{c:Code}(h:c.wpIn F n P (Exit.noGoto Q) a w):(Code.scope c).wpIn F n P Q a w:=by
 intro b k cs hro hb hr
 have hs:step P (lone (b.atR a (.code (.scope c)::k)) cs w)=.next (lone (b.atR a (.code c::.inScope c::k)) cs w):=step_lone_go (by simp[stepG,stepG.exec,Frame.atR])
 have h0:(lone (b.atR a (.code (.scope c)::k)) cs w).fenced P F:=fenced_calm hb hr rfl
 obtain⟨e,a₁,w₁,hq,harr⟩:=h b (.inScope c::k) cs hro hb hr
 cases e with
 |normal=>
  have hs2:step P (lone (b.atR a₁ (.inScope c::k)) cs w₁)=.next (lone (b.atR a₁ k) cs w₁):=step_lone_go (by simp[stepG,stepG.exec,Frame.atR])
  exact⟨.normal,a₁,w₁,hq,.head h0 hs (StepsIn.trans harr (.one (fenced_calm hb hr rfl) hs2))⟩
 |exit id=>
  have hx:exitTo id (.inScope c::k)=exitTo id k:=by simp[exitTo]
  exact⟨.exit id,a₁,w₁,hq,λk' hk=>.head h0 hs (harr.1 k' (by rw[hx];exact hk)),λhr' hk=>let⟨k₁,h1,h2⟩:=harr.2 hr' (by rw[hx];exact hk);⟨k₁,h1,.head h0 hs h2⟩⟩
 |goto l=>exact hq.elim
 |ret=>exact⟨_,a₁,w₁,hq,.of_steps (.one h0 hs) harr⟩
 |panic ch=>exact⟨_,a₁,w₁,hq,.of_steps (.one h0 hs) harr⟩
 |outgrown=>exact⟨_,a₁,w₁,hq,.of_steps (.one h0 hs) harr⟩
abbrev Rc:=Option (Exit×St)
def evLoop(rec:St->Rc)(m:Nat):St->Rc:=Nat.rec (motive:=λ_=>St->Rc) (λ_=>none) (λ_ ih s=>match rec s with
    |some (.normal,s1)=>ih s1
    |some (e,s1)=>some (e,s1)
    |none=>none) m
theorem evLoop_succ(rec:St->Rc)(m:Nat)(s:St):evLoop rec (m+1) s=match rec s with
 |some (.normal,s1)=>evLoop rec m s1
 |some (e,s1)=>some (e,s1)
 |none=>none:=rfl
def loopFuel:Nat:=1000000
def evRange2(k0:Nat)(H0:Hp)(k:Nat)(df:List Nat)(s2:St):Rc:=match s2.hp k0 H0 (k+1)with
 |some (.loop l)=>match l.st with
  | .busy=>none
  |_=>match l.pd with
   |none=>some (.normal,{St.putD k0 [(k+1,none)] s2 with df:=k::df})
   |some .ret=>some (.ret,{St.putD k0 [(k+1,none)] s2 with df:=k::df})
   |some (.exit id)=>some (.exit id,{St.putD k0 [(k+1,none)] s2 with df:=k::df})
   |_=>none
 |_=>none
def rangeSt(k0 nt:Nat)(ps:Array Tmp)(assign body:Code)(s:St):St:={St.putD k0 [(s.k+1,some (.loop {st:=.ready,pd:=none,tmps:=s.A,nt,ps,assign,body})),(s.k,some .dfr)] s with k:=s.k+2}
def evRange(ev:Ev)(k0:Nat)(H0:Hp)(nt:Nat)(s:St)(f:Nat)(l m:List AV)(ps:Array Tmp)(assign body:Code):Rc:=
 match ev (.fn f) (l++[.yld (s.k+1)]++m) ((rangeSt k0 nt ps assign body s).hp k0 H0) (s.k+2)with
 |some r=>evRange2 k0 H0 s.k s.df {St.putD k0 r.d (rangeSt k0 nt ps assign body s)with k:=r.k}
 |none=>none
def inBlk(id:Nat):Rc->Rc
 |some (.exit id',s)=>bif Nat.beq id' id then some (.normal,s)else some (.exit id',s)
 |some (.normal,s)=>some (.normal,s)
 |some (.ret,s)=>some (.ret,s)
 |_=>none
def inScp:Rc->Rc
 |some (.exit id',s)=>some (.exit id',s)
 |some (.normal,s)=>some (.normal,s)
 |some (.ret,s)=>some (.ret,s)
 |_=>none
def nrm:Option St->Rc
 |some s=>some (.normal,s)
 |none=>none
structure CC where
 f:Ev->Nat->Hp->Nat->St->Rc
def rangeC(g:Operand)(ps:Array Tmp)(asg body:Code):CC:=⟨λev k0 H0 nt s=>match evA s.A g with
 | .fn (.func f) l m=>evRange ev k0 H0 nt s f l m ps asg body
 | .lit (.func (.func f) l m)=>evRange ev k0 H0 nt s f (l.toList.map .lit) (m.toList.map .lit) ps asg body
 |_=>none⟩
def noC:CC:=⟨λ_ _ _ _ _=>none⟩
def seqC(ds:List Dop):CC:=⟨λev k0 H0 nt s=>nrm (evSeq ev k0 H0 nt ds s)⟩
def drawC(ds:List Dop):CC:=⟨λev k0 H0 nt s=>nrm (evDraw ev ds k0 H0 nt s)⟩
def thenC(x y:CC):CC:=⟨λev k0 H0 nt s=>match x.f ev k0 H0 nt s with
 |some (.normal,s1)=>y.f ev k0 H0 nt s1
 |some (e,s1)=>some (e,s1)
 |none=>none⟩
def condC(c:Operand)(x y:CC):CC:=⟨λev k0 H0 nt s=>match evA s.A c with
 | .lit (.bool b)=>bif b then x.f ev k0 H0 nt s else y.f ev k0 H0 nt s
 |_=>none⟩
def loopC(x:CC):CC:=⟨λev k0 H0 nt s=>evLoop (λs=>x.f ev k0 H0 nt s) loopFuel s⟩
def endC(e:Exit):CC:=⟨λ_ _ _ _ s=>some (e,s)⟩
abbrev Hook:=Bool->Code->Code->Option CC
def cmp(P:Program)(hk:Hook)(inr:Bool)(c:Code):CC:=Code.rec (motive:=λ_=>CC)
 (endC .normal)
 (λ_ ops draw=>bif draw then(bif dagB ops then drawC (dops P ops.toList ops.toList (ancL ops.toList []))else noC)else seqC (dops P ops.toList ops.toList []))
 (λx y cx cy=>match hk inr x y with
   |some cc=>cc
   |none=>thenC cx cy)
 (λc _ _ x y=>condC c x y)
 (λid _ x=>⟨λev k0 H0 nt s=>inBlk id (x.f ev k0 H0 nt s)⟩)
 (λ_ x=>loopC x)
 (λg ps asg body _ _=>bif inr then noC else rangeC g ps asg body)
 (λid=>endC (.exit id))
 (λ_ x=>⟨λev k0 H0 nt s=>inScp (x.f ev k0 H0 nt s)⟩)
 (λ_=>endC .normal)
 (λ_=>noC)
 (endC .ret)
 (λ_=>noC) c
def CodeOk(P:Program)(k0:Nat)(H0:Hp)(nt:Nat)(inr:Bool)(s:St)(c:Code)(e:Exit)(s':St):Prop:=
 s.k<=s'.k/\∀{N:Nat}{ρ:Rho}{a:Act}{W:World}(R:Option Nat)(n:Nat),(inr=false->R=none)->StR N k0 nt H0 ρ s a W->Free ρ s.k s'.k->∀Q:Exit->Act->World->Prop,(∀a' W',Ends N k0 nt H0 ρ s W s' a' W'->Q e a' W')->c.wpIn (Fc R) n P Q a W
def HookOk(P:Program)(hk:Hook):Prop:=∀(inr:Bool)(x y:Code)(cc:CC),hk inr x y=some cc->∀(ev:Ev)(k0 nt:Nat)(H0:Hp),EvOk P ev->∀(s:St)(e:Exit)(s':St),cc.f ev k0 H0 nt s=some (e,s')->CodeOk P k0 H0 nt inr s (.seq x y) e s'
def noHook:Hook:=λ_ _ _=>none
theorem noHook_ok(P:Program):HookOk P noHook:=λinr x y cc h=>by cases h
section
variable{ev:Ev}{P:Program}{k0 nt:Nat}{H0:Hp}{inr:Bool}
theorem loop_ok{rec:St->Rc}{c:Code}(hrec:∀s e s',rec s=some (e,s')->CodeOk P k0 H0 nt inr s c e s'):∀(m:Nat)(s:St)(e:Exit)(s':St),evLoop rec m s=some (e,s')->
 s.k<=s'.k/\∀{N:Nat}{ρ:Rho}{a:Act}{W:World}(R:Option Nat)(n:Nat),(inr=false->R=none)->StR N k0 nt H0 ρ s a W->Free ρ s.k s'.k->∀Q:Exit->Act->World->Prop,(∀a' W',Ends N k0 nt H0 ρ s W s' a' W'->Q e a' W')->Code.roundsIn (Fc R) n P c Q m a W:=by
 intro m
 induction m with
 |zero=>intro s e s' h;cases h
 |succ m ih=>
  intro s e s' h
  rw[evLoop_succ]at h
  cases hr:rec s with
  |none=>rw[hr]at h;cases h
  |some z=>
   obtain⟨e1,s1⟩:=z
   have h1:=hrec _ _ _ hr
   rw[hr]at h
   by_cases he:e1=.normal
   ·subst he
    obtain⟨h2,h3⟩:=ih s1 e s' h
    refine⟨Nat.le_trans h1.1 h2,λ{N ρ a W}R n hR hs hf Q hQ=>?_⟩
    rw[roundsIn_succ]
    refine h1.2 R n hR hs (hf.sub (Nat.le_refl _) h2) _ (λa' W' he=>?_)
    obtain⟨ρ',g1,g2,g3⟩:=he.st h1.1 hf
    exact h3 R n hR g1 g2 Q (λa'' W'' he'=>hQ _ _ (g3 _ _ _ h2 he'))
   ·have h:some (e1,s1)=some (e,s'):=by
     cases e1<;>first|exact absurd rfl he|exact h
    cases h
    refine⟨h1.1,λ{N ρ a W}R n hR hs hf Q hQ=>?_⟩
    rw[roundsIn_succ]
    refine h1.2 R n hR hs hf _ (λa' W' he'=>?_)
    have:=hQ a' W' he'
    cases e<;>first|exact absurd rfl he|exact this
theorem gr_putObj(W:World)(b:Nat)(o:Obj):W.grownBy (W.putObj b o) (some b):=
 ⟨rfl,rfl,rfl,by simp,λj _ hne=>World.putObj_heap_other (λe=>hne (by rw[e]))⟩
def hideN(n:Nat)(H:Hp):Hp:=λm=>bif Nat.beq m n then none else H m
theorem hideN_sub(n:Nat)(H:Hp):Sub (hideN n H) H:=λm o h=>by
 unfold hideN at h
 cases hb:Nat.beq m n with
 |true=>rw[hb]at h;cases h
 |false=>rw[hb]at h;exact h
theorem hideN_ne{n:Nat}{H:Hp}{m:Nat}(h:hideN n H m≠none):m≠n:=λe=>h (by unfold hideN;rw[T.beq_yes e];rfl)
theorem RelH.grown{N:Nat}{ρ:Rho}{H:Hp}{W W':World}{r:Nat}(h:RelH N ρ H W)(hg:W.grownBy W' (some r))(hr:¬InH ρ H r):RelH N ρ H W':=
 ⟨λn o ho=>by
   obtain⟨b,κ,h1,h2,h3⟩:=h.obj n o ho
   exact⟨b,κ,h1,h2,h3.blk (hg.block b h3.lt (λe=>hr (by cases e;exact⟨n,κ,by rw[ho];simp,h1⟩)))⟩,h.inj,Nat.le_trans h.size hg.size⟩
theorem range_ok(hev:EvOk P ev){s s':St}{f:Nat}{l m:List AV}{g:Operand}{ps:Array Tmp}{asg body:Code}{e:Exit}(hg:∀{ρ:Rho}{a:Act},RelT ρ s.A nt a.tmps->∃lv mv,RelL ρ l lv/\RelL ρ m mv/\a.eval g=.func (.func f) lv.toArray mv.toArray)
 (h:evRange ev k0 H0 nt s f l m ps asg body=some (e,s')):CodeOk P k0 H0 nt false s (.rangeFunc g ps asg body) e s':=by
 unfold evRange at h
 split at h
 ·rename_i r hr
  have ht:=hev.2 _ _ _ _ _ hr
  have hle:=ht.le
  unfold evRange2 at h
  split at h
  ·rename_i l2 hl2
   have hh2:∀x:List Nat,({St.putD k0 [(s.k+1,none)] {St.putD k0 r.d (rangeSt k0 nt ps asg body s)with k:=r.k}with df:=x}:St).hp k0 H0=upH (ovr r.d ((rangeSt k0 nt ps asg body s).hp k0 H0)) (s.k+1) none:=λx=>by
    have e1:=hp_putD k0 H0 [(s.k+1,none)] {St.putD k0 r.d (rangeSt k0 nt ps asg body s)with k:=r.k}
    rw[app_cons,app_nil]at e1
    refine e1.trans ?_
    rw[show({St.putD k0 r.d (rangeSt k0 nt ps asg body s)with k:=r.k}:St).hp k0 H0=(St.putD k0 r.d (rangeSt k0 nt ps asg body s)).hp k0 H0 from rfl,hp_putD]
   have hh1:(rangeSt k0 nt ps asg body s).hp k0 H0=upH (upH (s.hp k0 H0) s.k (some .dfr)) (s.k+1) (some (.loop {st:=.ready,pd:=none,tmps:=s.A,nt,ps,assign:=asg,body})):=by
    have e1:=hp_putD k0 H0 [(s.k+1,some (.loop {st:=.ready,pd:=none,tmps:=s.A,nt,ps,assign:=asg,body})),(s.k,some .dfr)] s
    rw[app_cons,app_cons,app_nil]at e1
    exact e1
   have hk2:∀x:List Nat,({St.putD k0 [(s.k+1,none)] {St.putD k0 r.d (rangeSt k0 nt ps asg body s)with k:=r.k}with df:=x}:St).k=r.k:=λx=>(putD_A k0 [(s.k+1,none)] {St.putD k0 r.d (rangeSt k0 nt ps asg body s)with k:=r.k}).2.1
   have hA2:∀x:List Nat,({St.putD k0 [(s.k+1,none)] {St.putD k0 r.d (rangeSt k0 nt ps asg body s)with k:=r.k}with df:=x}:St).A=s.A:=λx=>by
    have e1:=(putD_A k0 [(s.k+1,none)] {St.putD k0 r.d (rangeSt k0 nt ps asg body s)with k:=r.k}).1
    refine e1.trans ?_
    refine(putD_A k0 r.d (rangeSt k0 nt ps asg body s)).1.trans ?_
    exact(putD_A k0 _ s).1
   have hl2:ovr r.d ((rangeSt k0 nt ps asg body s).hp k0 H0) (s.k+1)=some (.loop l2):=by
    rw[<-hp_putD];exact hl2
   have fin:∀(e:Exit)(s':St),l2.st≠.busy->s'=({St.putD k0 [(s.k+1,none)] {St.putD k0 r.d (rangeSt k0 nt ps asg body s)with k:=r.k}with df:=s.k::s.df}:St)->
    (∀(R:Option Nat)(n:Nat)(Q:Exit->Act->World->Prop)(a':Act)(W':World),Q e a' W'->match l2.pd with|none=>Q .normal a' W'|some c=>c.wpIn (Fc R) n P Q a' W')->CodeOk P k0 H0 nt false s (.rangeFunc g ps asg body) e s':=by
    intro e s' hnb hs' hend
    subst hs'
    refine⟨by rw[hk2];omega,λ{N ρ a W}R n hR hs hf Q hQ=>?_⟩
    rw[hk2]at hf
    obtain rfl:=hR rfl
    refine wpIn_rangeFunc (λfn _=>?_)
    obtain⟨lv,mv,q1,q2,q3⟩:=hg hs.tmps
    have hf0:ρ s.k=none:=hf s.k (Nat.le_refl _) (by omega)
    have p1:Post N ρ (s.hp k0 H0) W (upH (s.hp k0 H0) s.k (some .dfr)) s.k (s.k+1) (upR ρ s.k (W.heap.size,0)) (W.alloc (.deferred (some []))):=
     Post.new hs.heap hf0 (gr_alloc W _) (Nat.le_refl _) (heap_alloc_new W _)
    have hf1:upR ρ s.k (W.heap.size,0) (s.k+1)=none:=by
     rw[p1.only (s.k+1) (by omega)]
     exact hf (s.k+1) (by omega) (by omega)
    have p2:Post N (upR ρ s.k (W.heap.size,0)) (upH (s.hp k0 H0) s.k (some .dfr)) (W.alloc (.deferred (some []))) ((rangeSt k0 nt ps asg body s).hp k0 H0) (s.k+1) (s.k+2) (upR (upR ρ s.k (W.heap.size,0)) (s.k+1) ((W.alloc (.deferred (some []))).heap.size,0))
     ((W.alloc (.deferred (some []))).alloc (.loop {state:=.ready,pending:=none,fn,tmps:=a.tmps,params:=ps,assign:=asg,body,defers:=W.heap.size})):=by
     rw[hh1]
     refine Post.new p1.heap hf1 (gr_alloc _ _) (Nat.le_refl _) ⟨fn,a.tmps,W.heap.size,heap_alloc_new _ _,?_⟩
     exact(hs.tmps.mono p1.le).mono (upR_le hf1)
    have p3:=p1.trans p2 (Nat.le_succ _) (Nat.le_succ _)
    have hy:RelL (upR (upR ρ s.k (W.heap.size,0)) (s.k+1) ((W.alloc (.deferred (some []))).heap.size,0)) (l++[.yld (s.k+1)]++m) (lv++[.func (.yield (W.alloc (.deferred (some []))).heap.size) #[] #[]]++mv):=
     ((q1.mono p3.le).append (show RelL _ [.yld (s.k+1)] [Value.func (.yield (W.alloc (.deferred (some []))).heap.size) #[] #[]]from⟨_,[],⟨_,_,if_pos rfl,rfl⟩,rfl,rfl⟩)).append (q2.mono p3.le)
    obtain⟨c1,c2⟩:=ht.does p2.heap hy (hf.post p3 (by omega))
    have hsz:(W.alloc (.deferred (some []))).heap.size=W.heap.size+1:=World.size_alloc _ _
    rw[hsz]at c1 c2 hy p2 p3
    have henter:=run_enterLoop_outer (P:=P) (w:=W) fn a.tmps ps asg body
    generalize ((W.alloc (.deferred (some []))).alloc (.loop {state:=.ready,pending:=none,fn,tmps:=a.tmps,params:=ps,assign:=asg,body:=body,defers:=W.heap.size}))=W1 at henter c1 c2 p2 p3
    refine⟨W.heap.size+1,[{target:=.collected W.heap.size,args:=#[]}],W1,{target:=.fn (.func f) mv.toArray,args:=lv.toArray++#[.func (.yield (W.heap.size+1)) #[] #[]]},W1,f,(lv++[Value.func (.yield (W.heap.size+1)) #[] #[]]++mv).toArray,W1,henter,?_,λf' _=>fc_fn none f',?_,(fc_lets none n P).deep,?_⟩
    ·simp only[resolve,q3]
     simp[Deferred.ofValue,Act.eval]
    ·have harr:(lv++[Value.func (.yield (W.heap.size+1)) #[] #[]]++mv).toArray=lv.toArray++#[.func (.yield (W.heap.size+1)) #[] #[]]++mv.toArray:=by
      apply Array.toList_inj.1
      simp
     rw[harr]at c1 ⊢
     show(callFunc f (lv.toArray++#[.func (.yield (W.heap.size+1)) #[] #[]]++mv.toArray)).run P W1=_
     exact c1 _
    ·refine callsIn_wide.2 (c2.mono (λe' W2 he'=>?_))
     obtain⟨v,rfl,ρ2,p4,_⟩:=he'
     have p5:=p3.trans p4 (by omega) hle
     obtain⟨b2,κ2,g1,g2,fn2,tmps2,d2,g3,g4⟩:=p4.heap.obj _ _ hl2
     have hb2:ρ2 (s.k+1)=some (W.heap.size+1,0):=p4.le _ _ (if_pos rfl)
     rw[hb2]at g1
     cases g1
     have hlive:ovr r.d ((rangeSt k0 nt ps asg body s).hp k0 H0) (s.k+1)≠none:=by rw[hl2];simp
     have p6:=Post.kill (k:=r.k) p4.heap hlive hb2 (gr_putObj W2 (W.heap.size+1) (.loop {state:=.exhausted,pending:=l2.pd,fn:=fn2,tmps:=tmps2,params:=l2.ps,assign:=l2.assign,body:=l2.body,defers:=d2}))
     have p7:=p5.trans p6 (by omega) (Nat.le_refl _)
     refine⟨l2.pd,_,run_endLoop g3 hnb,?_⟩
     refine hend none n Q _ _ (hQ _ _ ⟨ρ2,?_,?_,?_⟩)
     ·rw[hh2,hk2];exact p7
     ·rw[hA2];exact hs.tmps.mono p7.le
     ·exact⟨W.heap.size,0,a.defers,p4.le _ _ (by
       show upR (upR ρ s.k (W.heap.size,0)) (s.k+1) (W.heap.size+1,0) s.k=_
       unfold upR
       rw[if_neg (by omega),if_pos rfl]),rfl,hs.defers.mono p7.le⟩
   split at h
   ·cases h
   ·rename_i hnb
    split at h
    ·rename_i hpd
     cases h
     exact fin _ _ (λe=>hnb e) rfl (λR n Q a' W' hq=>by rw[hpd];exact hq)
    ·rename_i hpd
     cases h
     exact fin _ _ (λe=>hnb e) rfl (λR n Q a' W' hq=>by rw[hpd];exact wpIn_ret hq)
    ·rename_i id hpd
     cases h
     exact fin _ _ (λe=>hnb e) rfl (λR n Q a' W' hq=>by rw[hpd];exact wpIn_exit hq)
    ·cases h
  ·cases h
 ·cases h
theorem code_ok{hk:Hook}(hhk:HookOk P hk)(hev:EvOk P ev)(hm:P.follows .mixedOrders=true):∀(c:Code)(s:St)(e:Exit)(s':St),(cmp P hk inr c).f ev k0 H0 nt s=some (e,s')->CodeOk P k0 H0 nt inr s c e s':=by
 intro c
 induction c with
 |skip=>intro s e s' h;cases h;exact⟨Nat.le_refl _,λR n _ hs _ Q hQ=>wpIn_skip (hQ _ _ (Ends.refl hs))⟩
 |label l=>intro s e s' h;cases h;exact⟨Nat.le_refl _,λR n _ hs _ Q hQ=>wpIn_label (hQ _ _ (Ends.refl hs))⟩
 |exit id=>intro s e s' h;cases h;exact⟨Nat.le_refl _,λR n _ hs _ Q hQ=>wpIn_exit (hQ _ _ (Ends.refl hs))⟩
 |ret=>intro s e s' h;cases h;exact⟨Nat.le_refl _,λR n _ hs _ Q hQ=>wpIn_ret (hQ _ _ (Ends.refl hs))⟩
 |goto l=>intro s e s' h;cases h
 |refuse w=>intro s e s' h;cases h
 |region id ops draw=>
  intro s e s' h
  cases draw with
  |true=>
   have h:(bif dagB ops then drawC (dops P ops.toList ops.toList (ancL ops.toList []))else noC).f ev k0 H0 nt s=some (e,s'):=h
   cases hc:dagB ops with
   |false=>rw[hc]at h;cases h
   |true=>
    rw[hc]at h
    have h:nrm (evDraw ev (dops P ops.toList ops.toList (ancL ops.toList [])) k0 H0 nt s)=some (e,s'):=h
    cases hx:evDraw ev (dops P ops.toList ops.toList (ancL ops.toList [])) k0 H0 nt s with
    |none=>rw[hx]at h;cases h
    |some s1=>
     rw[hx]at h
     cases h
     obtain⟨h1,h2⟩:=drawn_ok hev hm (dagB_ok hc) (anc_ok (dagB_ok hc)) hx
     exact⟨h1,λR n _ hs hf Q hQ=>h2 R n id hs hf Q hQ⟩
  |false=>
   have h:nrm (evSeq ev k0 H0 nt (dops P ops.toList ops.toList []) s)=some (e,s'):=h
   cases hx:evSeq ev k0 H0 nt (dops P ops.toList ops.toList []) s with
   |none=>rw[hx]at h;cases h
   |some s1=>
    rw[hx]at h
    cases h
    obtain⟨h1,h2⟩:=region_ok hev hx
    exact⟨h1,λR n _ hs hf Q hQ=>h2 R n id hs hf Q hQ⟩
 |seq x y ihx ihy=>
  intro s e s' h
  have h:(match hk inr x y with|some cc=>cc|none=>thenC (cmp P hk inr x) (cmp P hk inr y)).f ev k0 H0 nt s=some (e,s'):=h
  cases hkx:hk inr x y with
  |some cc=>rw[hkx]at h;exact hhk inr x y cc hkx ev k0 nt H0 hev s e s' h
  |none=>
  rw[hkx]at h
  simp only[thenC]at h
  cases hx:(cmp P hk inr x).f ev k0 H0 nt s with
  |none=>rw[hx]at h;cases h
  |some z=>
   obtain⟨e1,s1⟩:=z
   have h1:=ihx _ _ _ hx
   rw[hx]at h
   by_cases he:e1=.normal
   ·subst he
    have h2:=ihy _ _ _ h
    refine⟨Nat.le_trans h1.1 h2.1,λ{N ρ a W}R n hR hs hf Q hQ=>wpIn_seq (h1.2 R n hR hs (hf.sub (Nat.le_refl _) h2.1) _ (λa' W' he=>?_))⟩
    obtain⟨ρ',g1,g2,g3⟩:=he.st h1.1 hf
    exact h2.2 R n hR g1 g2 Q (λa'' W'' he'=>hQ _ _ (g3 _ _ _ h2.1 he'))
   ·have h:some (e1,s1)=some (e,s'):=by
     cases e1<;>first|exact absurd rfl he|exact h
    cases h
    refine⟨h1.1,λ{N ρ a W}R n hR hs hf Q hQ=>wpIn_seq (h1.2 R n hR hs hf _ (λa' W' he'=>?_))⟩
    have:=hQ a' W' he'
    cases e<;>first|exact absurd rfl he|exact this
 |cond c x y ihx ihy=>
  intro s e s' h
  have h:(condC c (cmp P hk inr x) (cmp P hk inr y)).f ev k0 H0 nt s=some (e,s'):=h
  simp only[condC]at h
  split at h
  ·rename_i b hc
   cases b with
   |true=>
    have h1:=ihx _ _ _ h
    refine⟨h1.1,λ{N ρ a W}R n hR hs hf Q hQ=>wpIn_cond_true ?_ (h1.2 R n hR hs hf Q hQ)⟩
    have:=evA_rel hs.tmps c
    rw[hc]at this
    exact this
   |false=>
    have h1:=ihy _ _ _ h
    refine⟨h1.1,λ{N ρ a W}R n hR hs hf Q hQ=>wpIn_cond_false ?_ (h1.2 R n hR hs hf Q hQ)⟩
    have:=evA_rel hs.tmps c
    rw[hc]at this
    exact this
  ·cases h
 |block id c ih=>
  intro s e s' h
  have h:inBlk id ((cmp P hk inr c).f ev k0 H0 nt s)=some (e,s'):=h
  cases hx:(cmp P hk inr c).f ev k0 H0 nt s with
  |none=>rw[hx]at h;cases h
  |some z=>
   obtain⟨e1,s1⟩:=z
   have h1:=ih _ _ _ hx
   rw[hx]at h
   have key:∀Q:Exit->Act->World->Prop,∀a' W',Q e a' W'->s'=s1/\Exit.inBlock id Q e1 a' W':=λQ a' W' hq=>by
    cases e1 with
    |normal=>cases h;exact⟨rfl,hq⟩
    |ret=>cases h;exact⟨rfl,hq⟩
    |exit id'=>
     simp only[inBlk]at h
     cases hb:Nat.beq id' id with
     |true=>
      rw[hb]at h
      cases h
      refine⟨rfl,?_⟩
      simp only[Exit.inBlock,Nat.eq_of_beq_eq_true hb,if_true]
      exact hq
     |false=>
      rw[hb]at h
      cases h
      refine⟨rfl,?_⟩
      have hne:id'≠id:=λe=>by rw[T.beq_yes e]at hb;cases hb
      simp only[Exit.inBlock,hne,if_false]
      exact hq
    |goto l=>cases h
    |panic c=>cases h
    |outgrown=>cases h
   have hs1:s'=s1:=(key (λ_ _ _=>True) ⟨#[],[]⟩ default trivial).1
   subst hs1
   exact⟨h1.1,λ{N ρ a W}R n hR hs hf Q hQ=>wpIn_block (h1.2 R n hR hs hf _ (λa' W' he'=>(key Q a' W' (hQ a' W' he')).2))⟩
 |scope c ih=>
  intro s e s' h
  have h:inScp ((cmp P hk inr c).f ev k0 H0 nt s)=some (e,s'):=h
  cases hx:(cmp P hk inr c).f ev k0 H0 nt s with
  |none=>rw[hx]at h;cases h
  |some z=>
   obtain⟨e1,s1⟩:=z
   have h1:=ih _ _ _ hx
   rw[hx]at h
   have key:e=e1/\s'=s1/\∀(Q:Exit->Act->World->Prop)a' W',Q e1 a' W'->Exit.noGoto Q e1 a' W':=by
    cases e1<;>first|(cases h;done)|(cases h;exact⟨rfl,rfl,λQ a' W' hq=>hq⟩)
   obtain⟨rfl,rfl,key⟩:=key
   exact⟨h1.1,λ{N ρ a W}R n hR hs hf Q hQ=>wpIn_scope (h1.2 R n hR hs hf _ (λa' W' he'=>key Q a' W' (hQ a' W' he')))⟩
 |loop c ih=>
  intro s e s' h
  have h:(loopC (cmp P hk inr c)).f ev k0 H0 nt s=some (e,s'):=h
  simp only[loopC]at h
  generalize loopFuel=m at h
  obtain⟨h1,h2⟩:=loop_ok ih m s e s' h
  exact⟨h1,λ{N ρ a W}R n hR hs hf Q hQ=>wpIn_loop_rounds m (h2 R n hR hs hf Q hQ)⟩
 |rangeFunc g ps asg body _ _=>
  intro s e s' h
  cases inr with
  |true=>cases h
  |false=>
   have h:(rangeC g ps asg body).f ev k0 H0 nt s=some (e,s'):=h
   simp only[rangeC]at h
   split at h
   ·rename_i f' l m hx
    refine range_ok hev (λ{ρ a}hr=>?_) h
    have h4:=evA_rel hr g
    rw[hx]at h4
    exact h4
   ·rename_i f' l m hx
    refine range_ok hev (λ{ρ a}hr=>?_) h
    have h4:=evA_rel hr g
    rw[hx]at h4
    exact⟨_,_,RelL.lits _,RelL.lits _,h4⟩
   ·cases h
end
end
end Go.Proofs.YtifehdoghfnhoaaGreatDoor.Ev
