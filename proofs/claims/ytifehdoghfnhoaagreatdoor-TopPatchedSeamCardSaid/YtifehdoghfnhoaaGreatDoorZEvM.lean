/- Closed calls are reckoned by the kernel: a region that draws its order. -/
import Derived.Test.YtifehdoghfnhoaaGreatDoorZEvL
namespace Go.Proofs.YtifehdoghfnhoaaGreatDoor.Ev
noncomputable section
open Go.RowKit Go.Shelf
def tb(m n:Nat):Bool:=Nat.beq (Nat.land (Nat.shiftRight m n) 1) 1
structure Rec where
 ix:Nat
 an:Nat
 hp:Hp
 k:Nat
 r:Rs
def dAll(L:Nat->Bool)(l:List Rec):Dl:=List.rec (motive:=λ_=>Dl) [] (λrc _ ih=>match rc.r.d with
 |[]=>ih
 |p::d=>bif L rc.ix then p::(d++ih)else ih) l
theorem dAll_cons(L:Nat->Bool)(rc:Rec)(l:List Rec):dAll L (rc::l)=match rc.r.d with
 |[]=>dAll L l
 |p::d=>bif L rc.ix then p::(d++dAll L l)else dAll L l:=rfl
theorem look_dAll(L:Nat->Bool)(rc:Rec)(l:List Rec)(n:Nat):look (dAll L (rc::l)) n=bif L rc.ix then(match look rc.r.d n with|some x=>some x|none=>look (dAll L l) n)else look (dAll L l) n:=by
 rw[dAll_cons]
 cases hd:rc.r.d with
 |nil=>cases L rc.ix<;>rfl
 |cons p d=>
  cases L rc.ix with
  |false=>rfl
  |true=>exact look_append (p::d) (dAll L l) n
theorem dAll_eq{L L':Nat->Bool}{n:Nat}:∀{l:List Rec},(∀rc∈l,L rc.ix≠L' rc.ix->look rc.r.d n=none)->look (dAll L l) n=look (dAll L' l) n
 |[],_=>rfl
 |rc::l,h=>by
  rw[look_dAll,look_dAll,dAll_eq (λrc' hr=>h rc' (List.mem_cons_of_mem _ hr))]
  by_cases e:L rc.ix=L' rc.ix
  ·rw[e]
  ·rw[h rc (List.mem_cons_self ..) e]
   cases L rc.ix<;>cases L' rc.ix<;>rfl
theorem dAll_skip{L:Nat->Bool}{n:Nat}{m:List Rec}:∀{l:List Rec},(∀rc∈l,L rc.ix=true->look rc.r.d n=none)->look (dAll L (l++m)) n=look (dAll L m) n
 |[],_=>rfl
 |rc::l,h=>by
  rw[List.cons_append,look_dAll,dAll_skip (λrc' hr=>h rc' (List.mem_cons_of_mem _ hr))]
  cases hL:L rc.ix with
  |false=>rfl
  |true=>rw[h rc (List.mem_cons_self ..) hL];rfl
def memN(n:Nat):List Nat->Bool
 |[]=>false
 |m::l=>bif Nat.beq m n then true else memN n l
def hid(mk:List Nat)(H:Hp):Hp:=match mk with
 |[]=>H
 |m::l=>λn=>bif memN n (m::l)then none else H n
theorem hid_sub(mk:List Nat)(H:Hp):Sub (hid mk H) H:=λn o h=>by
 cases mk with
 |nil=>exact h
 |cons m l=>
  have h:(bif memN n (m::l)then none else H n)=some o:=h
  cases hm:memN n (m::l)with
  |false=>rw[hm]at h;exact h
  |true=>rw[hm]at h;cases h
def hdL:List (List Nat)->List Nat
 |[]=>[]
 |n::_=>n
def evD(ev:Ev)(H0:Hp)(nt:Nat)(ds:List Dop):List (List Nat)->Nat->List Rec->T AV->Nat->Option (List Rec×T AV×Nat):=
 List.rec (motive:=λ_=>List (List Nat)->Nat->List Rec->T AV->Nat->Option (List Rec×T AV×Nat)) (λ_ _ pre A k=>some (pre,A,k))
  (λo _ ih mks i pre A k=>match o.d.f ev A (hid (hdL mks) (ovr (dAll (tb o.an) pre) H0)) k with
    |some ⟨v,d,k'⟩=>match dstA nt A o.dst v with
     |some A'=>ih (tlN mks) (i+1) (⟨i,o.an,hid (hdL mks) (ovr (dAll (tb o.an) pre) H0),k,⟨v,d,k'⟩⟩::pre) A' k'
     |none=>none
    |none=>none) ds
theorem evD_cons(ev:Ev)(H0:Hp)(nt:Nat)(o:Dop)(os:List Dop)(mks:List (List Nat))(i:Nat)(pre:List Rec)(A:T AV)(k:Nat):evD ev H0 nt (o::os) mks i pre A k=match o.d.f ev A (hid (hdL mks) (ovr (dAll (tb o.an) pre) H0)) k with
 |some r=>match dstA nt A o.dst r.v with
  |some A'=>evD ev H0 nt os (tlN mks) (i+1) (⟨i,o.an,hid (hdL mks) (ovr (dAll (tb o.an) pre) H0),k,r⟩::pre) A' r.k
  |none=>none
 |none=>none:=by
 show(match o.d.f ev A (hid (hdL mks) (ovr (dAll (tb o.an) pre) H0)) k with
  |some ⟨v,d,k'⟩=>match dstA nt A o.dst v with
   |some A'=>evD ev H0 nt os (tlN mks) (i+1) (⟨i,o.an,hid (hdL mks) (ovr (dAll (tb o.an) pre) H0),k,⟨v,d,k'⟩⟩::pre) A' k'
   |none=>none
  |none=>none)=_
 cases o.d.f ev A (hid (hdL mks) (ovr (dAll (tb o.an) pre) H0)) k with
 |none=>rfl
 |some r=>obtain⟨v,d,k'⟩:=r;rfl
def RecsOk(P:Program)(ops:Array Oper)(ans:List Nat)(nt:Nat)(H0:Hp)(A0:T AV)(k0:Nat):List Rec->T AV->Nat->Prop
 |[],A,k=>A=A0/\k=k0
 |rc::pre,A,k=>∃o A1,ops[pre.length]? =some o/\rc.ix=pre.length/\rc.an=hdN (ans.drop pre.length)/\Sub rc.hp (ovr (dAll (tb rc.an) pre) H0)/\GOk P ops o A1 rc.hp rc.k rc.r/\dstA nt A1 o.dst rc.r.v=some A/\k=rc.r.k/\RecsOk P ops ans nt H0 A0 k0 pre A1 rc.k
theorem tlN_drop{α:Type}(l:List α)(i:Nat):tlN (l.drop i)=l.drop (i+1):=by
 rw[<-List.drop_drop]
 cases l.drop i<;>rfl
theorem evD_ok{ev:Ev}{P:Program}{ops:Array Oper}{nt:Nat}{H0:Hp}{A0:T AV}{k0:Nat}{ans:List Nat}(hev:EvOk P ev):∀(os:List Oper)(mks:List (List Nat))(pre:List Rec)(A:T AV)(k:Nat)(z:List Rec×T AV×Nat),
 ops.toList.drop pre.length=os->RecsOk P ops ans nt H0 A0 k0 pre A k->evD ev H0 nt (dops P ops.toList os (ans.drop pre.length)) mks pre.length pre A k=some z->RecsOk P ops ans nt H0 A0 k0 z.1 z.2.1 z.2.2/\z.1.length=pre.length+os.length
 |[],mks,pre,A,k,z,hd,h,he=>by cases he;exact⟨h,rfl⟩
 |o::os,mks,pre,A,k,z,hd,h,he=>by
  simp only[dops,evD_cons,dec_is]at he
  split at he
  ·rename_i r hr
   split at he
   ·rename_i A' hA
    have hi:ops[pre.length]? =some o:=by
     have:(ops.toList.drop pre.length)[0]? =some o:=by rw[hd];rfl
     simpa using this
    rw[tlN_drop]at he
    have:=evD_ok hev os (tlN mks) (⟨pre.length,hdN (ans.drop pre.length),hid (hdL mks) (ovr (dAll (tb (hdN (ans.drop pre.length))) pre) H0),k,r⟩::pre) A' r.k z (by rw[List.length_cons,<-List.drop_drop,hd];rfl)
     ⟨o,A,hi,rfl,rfl,hid_sub _ _,opG_ok hev hr,hA,rfl,h⟩ he
    refine⟨this.1,?_⟩
    rw[this.2,List.length_cons,List.length_cons]
    omega
   ·cases he
  ·cases he
section
variable{P:Program}{ops:Array Oper}{ans:List Nat}{nt:Nat}{H0:Hp}{A0:T AV}{k0:Nat}
theorem recs_le:∀{recs:List Rec}{A:T AV}{k:Nat},RecsOk P ops ans nt H0 A0 k0 recs A k->k0<=k/\∀rc∈recs,rc.r.k<=k/\rc.k<=rc.r.k/\rc.ix<recs.length
 |[],A,k,h=>⟨by rw[h.2];exact Nat.le_refl _,λ_ hr=>by cases hr⟩
 |rc::pre,A,k,⟨o,A1,h1,h2,h3,h4,h5,h6,h7,h8⟩=>by
  obtain⟨g1,g2⟩:=recs_le h8
  have:=h5.le
  refine⟨by omega,λrc' hr=>?_⟩
  rcases List.mem_cons.1 hr with rfl|hr
  ·exact⟨by omega,this,by rw[h2];simp⟩
  ·obtain⟨e1,e2,e3⟩:=g2 rc' hr
   exact⟨by omega,e2,by simp;omega⟩
structure At(P:Program)(ops:Array Oper)(ans:List Nat)(nt:Nat)(H0:Hp)(A0:T AV)(k0:Nat)(recs:List Rec)(rc:Rec)where
 front:List Rec
 pre:List Rec
 o:Oper
 A1:T AV
 A2:T AV
 is:recs=front++rc::pre
 op:ops[rc.ix]? =some o
 an:rc.an=hdN (ans.drop rc.ix)
 sub:Sub rc.hp (ovr (dAll (tb rc.an) pre) H0)
 ok:GOk P ops o A1 rc.hp rc.k rc.r
 dst:dstA nt A1 o.dst rc.r.v=some A2
 before:RecsOk P ops ans nt H0 A0 k0 pre A1 rc.k
 preIx:∀rc'∈pre,rc'.ix<rc.ix/\rc'.r.k<=rc.k
 frontIx:∀rc'∈front,rc.ix<rc'.ix/\rc.r.k<=rc'.k
theorem recs_at:∀{recs:List Rec}{A:T AV}{k:Nat},RecsOk P ops ans nt H0 A0 k0 recs A k->∀rc∈recs,Nonempty (At P ops ans nt H0 A0 k0 recs rc)
 |[],_,_,_,_,hr=>by cases hr
 |rc0::pre0,A,k,⟨o,A1,h1,h2,h3,h4,h5,h6,h7,h8⟩,rc,hr=>by
  rcases List.mem_cons.1 hr with rfl|hr
  ·exact⟨⟨[],pre0,o,A1,A,rfl,by rw[h2];exact h1,by rw[h2];exact h3,h4,h5,h6,h8,λrc' h'=>by
    obtain⟨e1,e2,e3⟩:=(recs_le h8).2 rc' h'
    exact⟨by rw[h2];exact e3,e1⟩,λrc' h'=>by cases h'⟩⟩
  ·obtain⟨t⟩:=recs_at h8 rc hr
   have hle:=(recs_le h8).2 rc hr
   refine⟨⟨rc0::t.front,t.pre,t.o,t.A1,t.A2,by rw[List.cons_append,<-t.is],t.op,t.an,t.sub,t.ok,t.dst,t.before,t.preIx,λrc' h'=>?_⟩⟩
   rcases List.mem_cons.1 h' with rfl|h'
   ·exact⟨by rw[h2];exact hle.2.2,hle.1⟩
   ·exact t.frontIx rc' h'
theorem recs_ex:∀{recs:List Rec}{A:T AV}{k:Nat},RecsOk P ops ans nt H0 A0 k0 recs A k->∀i,i<recs.length->∃rc∈recs,rc.ix=i
 |[],_,_,_,i,hi=>by simp at hi
 |rc0::pre0,A,k,⟨o,A1,h1,h2,h3,h4,h5,h6,h7,h8⟩,i,hi=>by
  by_cases e:i=pre0.length
  ·exact⟨rc0,List.mem_cons_self ..,by rw[h2,e]⟩
  ·simp at hi
   obtain⟨rc,hr,e2⟩:=recs_ex h8 i (by omega)
   exact⟨rc,List.mem_cons_of_mem _ hr,e2⟩
theorem recs_inj{recs:List Rec}{A:T AV}{k:Nat}(h:RecsOk P ops ans nt H0 A0 k0 recs A k){rc rc':Rec}(hr:rc∈recs)(hr':rc'∈recs)(e:rc.ix=rc'.ix):rc=rc':=by
 obtain⟨t⟩:=recs_at h rc hr
 rw[t.is]at hr'
 rcases List.mem_append.1 hr' with h1|h1
 ·have:=(t.frontIx rc' h1).1;omega
 ·rcases List.mem_cons.1 h1 with h2|h2
  ·exact h2.symm
  ·have:=(t.preIx rc' h2).1;omega
theorem recs_get(hd:∀(i j:Nat)(oi oj:Oper)(t:Tmp),ops[i]? =some oi->ops[j]? =some oj->oi.dst=some t->oj.dst=some t->i=j):∀{recs:List Rec}{A:T AV}{k:Nat},RecsOk P ops ans nt H0 A0 k0 recs A k->∀t:Nat,
 (∀rc∈recs,∀o,ops[rc.ix]? =some o->o.dst=some t->A.get t=some rc.r.v/\t<nt)/\((∀rc∈recs,∀o,ops[rc.ix]? =some o->o.dst≠some t)->A.get t=A0.get t)
 |[],A,k,h,t=>⟨(λ_ hr=>by cases hr),(λ_=>by rw[h.1])⟩
 |rc0::pre0,A,k,hall@⟨o,A1,h1,h2,h3,h4,h5,h6,h7,h8⟩,t=>by
  obtain⟨g1,g2⟩:=recs_get hd h8 t
  have hA:A.get t=if o.dst=some t then some rc0.r.v else A1.get t:=by
   cases ho:o.dst with
   |none=>rw[ho]at h6;cases h6;simp
   |some d=>
    rw[ho]at h6
    simp only[dstA]at h6
    cases hb:Nat.blt d nt with
    |false=>rw[hb]at h6;cases h6
    |true=>
     rw[hb]at h6
     cases h6
     rw[T.get_set]
     by_cases e:t=d
     ·subst e;rw[if_pos rfl,if_pos rfl]
     ·rw[if_neg e,if_neg (λe'=>e (Option.some.inj e').symm)]
  have hlt:o.dst=some t->t<nt:=λho=>by
   rw[ho]at h6
   simp only[dstA]at h6
   cases hb:Nat.blt t nt with
   |false=>rw[hb]at h6;cases h6
   |true=>exact Nat.le_of_ble_eq_true hb
  refine⟨λrc hr o' ho' hd'=>?_,λhn=>?_⟩
  ·rcases List.mem_cons.1 hr with rfl|hr
   ·rw[h2,h1]at ho'
    cases ho'
    rw[hA,if_pos hd']
    exact⟨rfl,hlt hd'⟩
   ·rw[hA,if_neg (λe=>by
     have e1:=hd _ _ _ _ t h1 ho' e hd'
     have e2:=((recs_le h8).2 rc hr).2.2
     omega)]
    exact g1 rc hr o' ho' hd'
  ·rw[hA,if_neg (hn rc0 (List.mem_cons_self ..) o (by rw[h2];exact h1)),g2 (λrc hr=>hn rc (List.mem_cons_of_mem _ hr))]
end
def unord(a b:Rec):Bool:=!(Nat.beq a.ix b.ix)&&!(tb a.an b.ix)&&!(tb b.an a.ix)
def chg:List Rec->List Rec
 |[]=>[]
 |rc::l=>match rc.r.d with
  |[]=>chg l
  |_::_=>rc::chg l
theorem chg_mem{l:List Rec}{rc:Rec}(h:rc∈l)(hd:rc.r.d≠[]):rc∈chg l:=by
 induction l with
 |nil=>cases h
 |cons r l ih=>
  unfold chg
  rcases List.mem_cons.1 h with rfl|h
  ·cases hx:rc.r.d with
   |nil=>exact absurd hx hd
   |cons=>exact List.mem_cons_self ..
  ·cases r.r.d with
   |nil=>exact ih h
   |cons=>exact List.mem_cons_of_mem _ (ih h)
def sepOk(recs:List Rec):Bool:=match chg recs with
 |[]=>true
 |b::bs=>recs.all (λa=>(b::bs).all (λc=>bif unord a c then c.r.d.all (λp=>!(liveN a.hp p.1))else true))
theorem look_mem:∀{d:Dl}{n:Nat},look d n≠none->∃p∈d,p.1=n
 |[],_,h=>absurd rfl h
 |(m,x)::l,n,h=>by
  rw[look_cons]at h
  by_cases e:n=m
  ·exact⟨(m,x),List.mem_cons_self ..,e.symm⟩
  ·rw[if_neg e]at h
   obtain⟨p,h1,h2⟩:=look_mem h
   exact⟨p,List.mem_cons_of_mem _ h1,h2⟩
theorem sepOk_at{recs:List Rec}(h:sepOk recs=true){a c:Rec}(ha:a∈recs)(hc:c∈recs)(hu:unord a c=true){n:Nat}(hn:look c.r.d n≠none):a.hp n=none:=by
 have hd:c.r.d≠[]:=λe=>by rw[e]at hn;exact hn rfl
 have hm:=chg_mem hc hd
 unfold sepOk at h
 cases hx:chg recs with
 |nil=>rw[hx]at hm;cases hm
 |cons b bs=>
  rw[hx]at h hm
  have h1:=List.all_eq_true.1 (List.all_eq_true.1 h a ha) c hm
  rw[hu]at h1
  obtain⟨p,h2,h3⟩:=look_mem hn
  have h4:=List.all_eq_true.1 h1 p h2
  rw[h3]at h4
  exact liveN_no (by simpa using h4)
structure DagP(ops:Array Oper):Prop where
 back:∀i o,ops[i]? =some o->∀e∈o.after,Region.binds .any e=true->e.on<i
 dist:∀(i j:Nat)(oi oj:Oper)(t:Tmp),ops[i]? =some oi->ops[j]? =some oj->oi.dst=some t->oj.dst=some t->i=j
 look:∀(i j:Nat)(o oj:Oper)(t:Tmp),ops[i]? =some o->ops[j]? =some oj->j≠i->oj.dst=some t->t∈o.looksAt ops->(j<i->∃e∈o.after,Region.binds .any e=true/\e.on=j)/\(¬j<i->∃e∈oj.after,Region.binds .any e=true/\e.on=i)
def edgeIn(j:Nat)(l:List Edge):Bool:=List.rec (motive:=λ_=>Bool) false (λe _ ih=>bif Region.binds .any e&&Nat.beq e.on j then true else ih) l
theorem edgeIn_is{j:Nat}:∀{l:List Edge},edgeIn j l=true->∃e∈l,Region.binds .any e=true/\e.on=j
 |[],h=>by cases h
 |e::l,h=>by
  have h:(bif Region.binds .any e&&Nat.beq e.on j then true else edgeIn j l)=true:=h
  cases hb:(Region.binds .any e&&Nat.beq e.on j)with
  |true=>
   rw[Bool.and_eq_true]at hb
   exact⟨e,List.mem_cons_self ..,hb.1,Nat.eq_of_beq_eq_true hb.2⟩
  |false=>
   rw[hb]at h
   obtain⟨e',h1,h2⟩:=edgeIn_is h
   exact⟨e',List.mem_cons_of_mem _ h1,h2⟩
def backB(i:Nat)(l:List Edge):Bool:=List.rec (motive:=λ_=>Bool) true (λe _ ih=>bif Region.binds .any e then(bif Nat.blt e.on i then ih else false)else ih) l
theorem backB_is{i:Nat}:∀{l:List Edge},backB i l=true->∀e∈l,Region.binds .any e=true->e.on<i
 |[],_,e,he,_=>by cases he
 |e::l,h,e',he,hb=>by
  have h:(bif Region.binds .any e then(bif Nat.blt e.on i then backB i l else false)else backB i l)=true:=h
  have h1:backB i l=true:=by
   cases hx:Region.binds .any e with
   |false=>rw[hx]at h;exact h
   |true=>
    rw[hx,cond_true]at h
    cases hy:Nat.blt e.on i with
    |false=>rw[hy]at h;cases h
    |true=>rw[hy]at h;exact h
  rcases List.mem_cons.1 he with rfl|he
  ·rw[hb,cond_true]at h
   cases hy:Nat.blt e'.on i with
   |false=>rw[hy]at h;cases h
   |true=>exact Nat.le_of_ble_eq_true hy
  ·exact backB_is h1 e' he hb
def dstT:List Oper->Nat->T Nat->Option (T Nat)
 |[],_,t=>some t
 |o::os,i,t=>match o.dst with
  |none=>dstT os (i+1) t
  |some d=>match t.get d with
   |some _=>none
   |none=>dstT os (i+1) (t.set d (some i))
theorem dstT_is:∀{os:List Oper}{i:Nat}{t t':T Nat},dstT os i t=some t'->(∀x j,t.get x=some j->t'.get x=some j)/\∀(k:Nat)(o:Oper)(x:Tmp),os[k]? =some o->o.dst=some x->t'.get x=some (i+k)
 |[],i,t,t',h=>by cases h;exact⟨λ_ _ h=>h,λk o x h=>by simp at h⟩
 |o::os,i,t,t',h=>by
  simp only[dstT]at h
  split at h
  ·rename_i hd
   obtain⟨h1,h2⟩:=dstT_is h
   refine⟨h1,λk o' x hk hx=>?_⟩
   cases k with
   |zero=>simp at hk;subst hk;rw[hd]at hx;cases hx
   |succ k=>rw[h2 k o' x (by simpa using hk) hx];congr 1;omega
  ·rename_i d hd
   split at h
   ·cases h
   ·rename_i hn
    obtain⟨h1,h2⟩:=dstT_is h
    refine⟨λx j hx=>h1 x j ?_,λk o' x hk hx=>?_⟩
    ·rw[T.get_set]
     by_cases e:x=d
     ·rw[e,hn]at hx;cases hx
     ·rw[if_neg e];exact hx
    ·cases k with
     |zero=>
      simp at hk
      subst hk
      rw[hd]at hx
      cases hx
      exact h1 d i (by rw[T.get_set,if_pos rfl])
     |succ k=>rw[h2 k o' x (by simpa using hk) hx];congr 1;omega
def lookB1(l:List Oper)(t:T Nat)(o:Oper)(i:Nat)(x:Tmp):Bool:=match t.get x with
 |none=>true
 |some j=>bif Nat.beq j i then true else bif Nat.blt j i then edgeIn j o.after.toList else match l[j]? with
  |some oj=>edgeIn i oj.after.toList
  |none=>false
def lookB(l:List Oper)(t:T Nat)(o:Oper)(i:Nat)(xs:List Tmp):Bool:=List.rec (motive:=λ_=>Bool) true (λx _ ih=>bif lookB1 l t o i x then ih else false) xs
theorem lookB_is{l:List Oper}{t:T Nat}{o:Oper}{i:Nat}:∀{xs:List Tmp},lookB l t o i xs=true->∀x∈xs,lookB1 l t o i x=true
 |[],_,x,hx=>by cases hx
 |y::xs,h,x,hx=>by
  have h:(bif lookB1 l t o i y then lookB l t o i xs else false)=true:=h
  cases hy:lookB1 l t o i y with
  |false=>rw[hy]at h;cases h
  |true=>
   rw[hy]at h
   rcases List.mem_cons.1 hx with rfl|hx
   ·exact hy
   ·exact lookB_is h x hx
def goB(l:List Oper)(ops:Array Oper)(t:T Nat):List Oper->Nat->Bool
 |[],_=>true
 |o::os,i=>bif backB i o.after.toList then(bif lookB l t o i (o.looksAt ops)then goB l ops t os (i+1)else false)else false
theorem goB_is{l:List Oper}{ops:Array Oper}{t:T Nat}:∀{os:List Oper}{i:Nat},goB l ops t os i=true->∀(k:Nat)(o:Oper),os[k]? =some o->backB (i+k) o.after.toList=true/\lookB l t o (i+k) (o.looksAt ops)=true
 |[],_,_,k,o,hk=>by simp at hk
 |o::os,i,h,k,o',hk=>by
  simp only[goB]at h
  cases h1:backB i o.after.toList with
  |false=>rw[h1]at h;cases h
  |true=>
   rw[h1,cond_true]at h
   cases h2:lookB l t o i (o.looksAt ops)with
   |false=>rw[h2]at h;cases h
   |true=>
    rw[h2,cond_true]at h
    cases k with
    |zero=>simp at hk;subst hk;exact⟨h1,h2⟩
    |succ k=>
     have:=goB_is h k o' (by simpa using hk)
     rwa[show i+1+k=i+(k+1)by omega]at this
def dagB(ops:Array Oper):Bool:=match dstT ops.toList 0 .e with
 |some t=>goB ops.toList ops t ops.toList 0
 |none=>false
theorem dagB_ok{ops:Array Oper}(h:dagB ops=true):DagP ops:=by
 unfold dagB at h
 split at h
 ·rename_i t ht
  have h1:=(dstT_is ht).2
  have h2:=goB_is h
  have hl:∀{i:Nat}{o:Oper},ops[i]? =some o->ops.toList[i]? =some o:=λh=>by simpa using h
  have hd:∀(i:Nat)(o:Oper)(x:Tmp),ops[i]? =some o->o.dst=some x->t.get x=some i:=λi o x hi hx=>by
   have:=h1 i o x (hl hi) hx
   rwa[Nat.zero_add]at this
  refine⟨λi o hi e he hb=>?_,λi j oi oj x hi hj hx hx'=>?_,λi j o oj x hi hj hne hx hlook=>?_⟩
  ·have:=backB_is (h2 i o (hl hi)).1 e (by simpa using he) hb
   rwa[Nat.zero_add]at this
  ·have e1:=hd i oi x hi hx
   rw[hd j oj x hj hx']at e1
   cases e1
   rfl
  ·have h3:=lookB_is (h2 i o (hl hi)).2 x hlook
   rw[Nat.zero_add]at h3
   unfold lookB1 at h3
   rw[hd j oj x hj hx]at h3
   simp only[T.beq_no hne,cond_false]at h3
   cases hb:Nat.blt j i with
   |true=>
    rw[hb]at h3
    obtain⟨e,he,hb',hon⟩:=edgeIn_is h3
    have hlt:j<i:=Nat.le_of_ble_eq_true hb
    exact⟨λ_=>⟨e,by simpa using he,hb',hon⟩,λhn=>absurd hlt hn⟩
   |false=>
    rw[hb,cond_false,hl hj]at h3
    obtain⟨e,he,hb',hon⟩:=edgeIn_is h3
    have hnlt:¬j<i:=λhlt=>by
     have:Nat.blt j i=true:=Nat.ble_eq_true_of_le hlt
     rw[hb]at this
     cases this
    exact⟨λhlt=>absurd hlt hnlt,λ_=>⟨e,by simpa using he,hb',hon⟩⟩
 ·cases h
def ancE(f:List Nat)(l:List Edge):Nat:=List.rec (motive:=λ_=>Nat) 0 (λe _ ih=>bif Region.binds .any e then Nat.lor (Nat.lor (Nat.shiftLeft 1 e.on) (hdN (f.drop e.on))) ih else ih) l
def ancL:List Oper->List Nat->List Nat
 |[],f=>f
 |o::os,f=>ancL os (f++[ancE f o.after.toList])
def AnsP(ops:Array Oper)(ans:List Nat):Prop:=∀i j,i<ops.size->tb (hdN (ans.drop i)) j=true->j<i/\∀o,ops[i]? =some o->∃e∈o.after,Region.binds .any e=true/\(e.on=j\/tb (hdN (ans.drop e.on)) j=true)
theorem tb_is(m n:Nat):tb m n=m.testBit n:=by
 unfold tb
 rw[show Nat.land (Nat.shiftRight m n) 1=(m >>> n) &&& 1 from rfl,Nat.and_one_is_mod,Nat.shiftRight_eq_div_pow,Nat.testBit_eq_decide_div_mod_eq,beq_is]
theorem ancE_is{f:List Nat}{j:Nat}:∀{l:List Edge},tb (ancE f l) j=true->∃e∈l,Region.binds .any e=true/\(e.on=j\/tb (hdN (f.drop e.on)) j=true)
 |[],h=>by
  rw[tb_is,show ancE f []=0 from rfl,Nat.zero_testBit]at h
  cases h
 |e::l,h=>by
  rw[show ancE f (e::l)=bif Region.binds .any e then Nat.lor (Nat.lor (Nat.shiftLeft 1 e.on) (hdN (f.drop e.on))) (ancE f l)else ancE f l from rfl]at h
  cases hb:Region.binds .any e with
  |false=>
   rw[hb]at h
   obtain⟨e',h1,h2⟩:=ancE_is h
   exact⟨e',List.mem_cons_of_mem _ h1,h2⟩
  |true=>
   rw[hb,cond_true,tb_is,show Nat.lor (Nat.lor (Nat.shiftLeft 1 e.on) (hdN (f.drop e.on))) (ancE f l)=((1 <<< e.on) ||| hdN (f.drop e.on)) ||| ancE f l from rfl,Nat.testBit_or,Nat.testBit_or,Bool.or_eq_true,Bool.or_eq_true]at h
   rcases h with(h|h)|h
   ·rw[Nat.one_shiftLeft,Nat.testBit_two_pow]at h
    exact⟨e,List.mem_cons_self ..,hb,.inl (by simpa using h)⟩
   ·exact⟨e,List.mem_cons_self ..,hb,.inr (by rw[tb_is];exact h)⟩
   ·obtain⟨e',h1,h2⟩:=ancE_is (l:=l) (by rw[tb_is];exact h)
    exact⟨e',List.mem_cons_of_mem _ h1,h2⟩
theorem ancL_is:∀(os:List Oper)(f:List Nat),∃g,ancL os f=f++g/\∀(k:Nat)(o:Oper),os[k]? =some o->hdN ((ancL os f).drop (f.length+k))=ancE ((ancL os f).take (f.length+k)) o.after.toList
 |[],f=>⟨[],by simp[ancL],λk o h=>by simp at h⟩
 |o::os,f=>by
  obtain⟨g,h1,h2⟩:=ancL_is os (f++[ancE f o.after.toList])
  refine⟨ancE f o.after.toList::g,?_,λk o' hk=>?_⟩
  ·rw[ancL,h1];simp
  ·cases k with
   |zero=>
    simp at hk
    subst hk
    rw[ancL,h1]
    simp[hdN]
   |succ k=>
    have:=h2 k o' (by simpa using hk)
    rw[ancL,show f.length+(k+1)=(f++[ancE f o.after.toList]).length+k by simp;omega]
    exact this
theorem hdN_take{l:List Nat}{i n:Nat}(h:n<i):hdN ((l.take i).drop n)=hdN (l.drop n):=by
 rw[List.drop_take]
 obtain⟨d,hd⟩:∃d,i-n=d+1:=⟨i-n-1,by omega⟩
 rw[hd]
 cases l.drop n<;>rfl
theorem anc_ok{ops:Array Oper}(hB:DagP ops):AnsP ops (ancL ops.toList []):=by
 have key:∀i j o,ops[i]? =some o->tb (hdN ((ancL ops.toList []).drop i)) j=true->∃e∈o.after,Region.binds .any e=true/\(e.on=j\/tb (hdN ((ancL ops.toList []).drop e.on)) j=true):=λi j o ho h=>by
  obtain⟨g,_,h2⟩:=ancL_is ops.toList []
  have h3:=h2 i o (by simpa using ho)
  simp only[List.length_nil,Nat.zero_add]at h3
  rw[h3]at h
  obtain⟨e,he,hb,hx⟩:=ancE_is h
  have he':e∈o.after:=by simpa using he
  refine⟨e,he',hb,hx.imp id (λhx=>?_)⟩
  rwa[hdN_take (hB.back i o ho e he' hb)]at hx
 have hlt:∀i j,i<ops.size->tb (hdN ((ancL ops.toList []).drop i)) j=true->j<i:=by
  intro i
  induction i using Nat.strongRecOn with
  |ind i ih=>
   intro j hi h
   have ho:ops[i]? =some ops[i]:=Array.getElem?_eq_getElem hi
   obtain⟨e,he,hb,hx⟩:=key i j _ ho h
   have h1:=hB.back i _ ho e he hb
   rcases hx with hx|hx
   ·omega
   ·have:=ih e.on h1 j (by omega) hx;omega
 exactλi j hi h=>⟨hlt i j hi h,λo ho=>key i j o ho h⟩
end
end Go.Proofs.YtifehdoghfnhoaaGreatDoor.Ev
