/- Closed calls are reckoned by the kernel: a loop over a map that deletes some of its entries, whatever order they come in. -/
import Derived.Test.YtifehdoghfnhoaaGreatDoorZEvO
namespace Go.Proofs.YtifehdoghfnhoaaGreatDoor.Ev
noncomputable section
open Go.RowKit Go.Shelf Go.Maps
mutual
theorem RelV.back{ρ ρ':Rho}(h:ρ.le ρ'):∀(a:AV)(u v:Value),RelV ρ a u->RelV ρ' a v->RelV ρ a v
 | .lit _,_,_,_,hv=>hv
 | .ptr _ _,_,_,⟨b,κ,h1,_⟩,⟨b',κ',h1',h2'⟩=>by rw[h _ _ h1]at h1';cases h1';exact⟨b,κ,h1,h2'⟩
 | .sl _ _ _ _ _ _,_,_,⟨b,κ,c,h1,_⟩,⟨b',κ',c',h1',h2'⟩=>by rw[h _ _ h1]at h1';cases h1';exact⟨b,κ,c',h1,h2'⟩
 | .emp _,_,_,⟨b,κ,o,c,h1,_⟩,⟨b',κ',o',c',h1',h2'⟩=>by rw[h _ _ h1]at h1';cases h1';exact⟨b,κ,o',c',h1,h2'⟩
 | .agg cs,_,_,⟨us,h1,_⟩,⟨vs,h1',h2'⟩=>⟨vs,RelL.back h cs us vs h1 h1',h2'⟩
 | .tup cs,_,_,⟨us,h1,_⟩,⟨vs,h1',h2'⟩=>⟨vs,RelL.back h cs us vs h1 h1',h2'⟩
 | .fn _ a c,_,_,⟨us,ws,h1,h2,_⟩,⟨us',ws',h1',h2',h3'⟩=>⟨us',ws',RelL.back h a us us' h1 h1',RelL.back h c ws ws' h2 h2',h3'⟩
 | .mp _,_,_,⟨b,κ,h1,_⟩,⟨b',κ',h1',h2'⟩=>by rw[h _ _ h1]at h1';cases h1';exact⟨b,κ,h1,h2'⟩
 | .yld _,_,_,⟨b,κ,h1,_⟩,⟨b',κ',h1',h2'⟩=>by rw[h _ _ h1]at h1';cases h1';exact⟨b,κ,h1,h2'⟩
 | .dead,_,_,_,_=>trivial
theorem RelL.back{ρ ρ':Rho}(h:ρ.le ρ'):∀(l:List AV)(us vs:List Value),RelL ρ l us->RelL ρ' l vs->RelL ρ l vs
 |[],_,_,_,hv=>hv
 |a::xs,_,_,⟨u,us',h1,h2,_⟩,⟨v,vs',h1',h2',h3'⟩=>⟨v,vs',RelV.back h a u v h1 h1',RelL.back h xs us' vs' h2 h2',h3'⟩
end
theorem RelT.back{ρ ρ':Rho}(h:ρ.le ρ'){A:T AV}{n:Nat}{us vs:Array Value}(hu:RelT ρ A n us)(hv:RelT ρ' A n vs):RelT ρ A n vs:=⟨hv.1,λt=>RelV.back h _ _ _ (hu.2 t) (hv.2 t)⟩
theorem RelO.back{ρ ρ':Rho}(h:ρ.le ρ'){W W':World}{b κ:Nat}:∀{o:AO},RelO ρ W b κ o->RelO ρ' W' b κ o->RelO ρ W' b κ o
 | .cells cs _,⟨_,_,_,_,h4⟩,⟨arr',h1',h2',h3',h4'⟩=>⟨arr',h1',h2',h3',RelL.back h cs _ _ h4 h4'⟩
 | .loop _,⟨_,_,_,_,h2⟩,⟨fn',tmps',d',h1',h2'⟩=>⟨fn',tmps',d',h1',h2.back h h2'⟩
 | .dfr,_,h1=>h1
 | .mp _ _ _ _,_,h1=>h1
theorem RelH.back{N:Nat}{ρ ρ':Rho}(h:ρ.le ρ'){H:Hp}{W W':World}(hu:RelH N ρ H W)(hv:RelH N ρ' H W'):RelH N ρ H W':=
 ⟨λn o ho=>by
   obtain⟨b,κ,h1,h2,h3⟩:=hu.obj n o ho
   obtain⟨b',κ',h1',_,h3'⟩:=hv.obj n o ho
   rw[h _ _ h1]at h1'
   cases h1'
   exact⟨b,κ,h1,h2,h3.back h h3'⟩,hu.inj,hv.size⟩
theorem DfR.back{ρ ρ':Rho}(h:ρ.le ρ'):∀{l:List Nat}{us vs:List Deferred},DfR ρ l us->DfR ρ' l vs->DfR ρ l vs
 |[],_,_,_,hv=>hv
 |_::_,_,_,⟨b,κ,ds,h1,_,h3⟩,⟨b',κ',ds',h1',h2',h3'⟩=>by
  rw[h _ _ h1]at h1'
  cases h1'
  exact⟨b,κ,ds',h1,h2',DfR.back h h3 h3'⟩
def asgO(t:Tmp)(l:List Oper):Bool:=l.any (λo=>match o.dst with|some d=>Nat.beq d t|none=>false)
def asgC(t:Tmp)(c:Code):Bool:=Code.rec (motive:=λ_=>Bool) false (λ_ ops _=>asgO t ops.toList) (λ_ _ x y=>x||y) (λ_ _ _ x y=>x||y) (λ_ _ x=>x) (λ_ x=>x) (λ_ _ _ _ _ _=>false) (λ_=>false) (λ_ x=>x) (λ_=>false) (λ_=>false) false (λ_=>false) c
theorem dstA_get{nt:Nat}{A A':T AV}{d:Option Tmp}{v:AV}(h:dstA nt A d v=some A'){t:Tmp}(ht:d≠some t):A'.get t=A.get t:=by
 cases d with
 |none=>cases h;rfl
 |some d=>
  simp only[dstA]at h
  cases hb:Nat.blt d nt with
  |false=>rw[hb]at h;cases h
  |true=>
   rw[hb]at h
   cases h
   rw[T.get_set,if_neg (λe=>ht (by rw[e]))]
theorem asgO_cons{t:Tmp}{o:Oper}{os:List Oper}(h:asgO t (o::os)=false):o.dst≠some t/\asgO t os=false:=by
 unfold asgO at h
 rw[List.any_cons,Bool.or_eq_false_iff]at h
 refine⟨λe=>?_,h.2⟩
 rw[e]at h
 have:=h.1
 simp only at this
 rw[T.beq_yes rfl]at this
 cases this
theorem evSeq_keep{ev:Ev}{P:Program}{l0:List Oper}{k0 nt:Nat}{H0:Hp}{t:Tmp}:∀(os:List Oper)(ans:List Nat)(s s':St),evSeq ev k0 H0 nt (dops P l0 os ans) s=some s'->asgO t os=false->s'.A.get t=s.A.get t
 |[],ans,s,s',h,_=>by cases h;rfl
 |o::os,ans,s,s',h,ha=>by
  simp only[dops,evSeq_cons]at h
  obtain⟨h1,h2⟩:=asgO_cons ha
  split at h
  ·rename_i r hr
   split at h
   ·rename_i s1 hp
    rw[evSeq_keep os (tlN ans) s1 s' h h2]
    exact dstA_get (put_is hp).1 h1
   ·cases h
  ·cases h
theorem evD_keep{ev:Ev}{P:Program}{l0:List Oper}{nt:Nat}{H0:Hp}{t:Tmp}:∀(os:List Oper)(ans:List Nat)(mks:List (List Nat))(i:Nat)(pre:List Rec)(A:T AV)(k:Nat)(z:List Rec×T AV×Nat),evD ev H0 nt (dops P l0 os ans) mks i pre A k=some z->asgO t os=false->z.2.1.get t=A.get t
 |[],ans,mks,i,pre,A,k,z,h,_=>by cases h;rfl
 |o::os,ans,mks,i,pre,A,k,z,h,ha=>by
  simp only[dops,evD_cons]at h
  obtain⟨h1,h2⟩:=asgO_cons ha
  split at h
  ·rename_i r hr
   split at h
   ·rename_i A' hA
    rw[evD_keep os (tlN ans) (tlN mks) (i+1) _ A' r.k z h h2]
    exact dstA_get hA h1
   ·cases h
  ·cases h
theorem evLoop_keep{rec:St->Rc}{t:Tmp}(hrec:∀s e s',rec s=some (e,s')->s'.A.get t=s.A.get t):∀(m:Nat)(s:St)(e:Exit)(s':St),evLoop rec m s=some (e,s')->s'.A.get t=s.A.get t:=by
 intro m
 induction m with
 |zero=>intro s e s' h;cases h
 |succ m ih=>
  intro s e s' h
  rw[evLoop_succ]at h
  cases hr:rec s with
  |none=>rw[hr]at h;cases h
  |some z=>
   obtain⟨e1,s1⟩:=z
   have h1:=hrec _ _ _ hr
   rw[hr]at h
   by_cases he:e1=.normal
   ·subst he
    exact(ih s1 e s' h).trans h1
   ·have h:some (e1,s1)=some (e,s'):=by
     cases e1<;>first|exact absurd rfl he|exact h
    cases h
    exact h1
theorem range_keep{ev:Ev}{k0 nt:Nat}{H0:Hp}{s s':St}{f:Nat}{l m:List AV}{ps:Array Tmp}{asg body:Code}{e:Exit}(h:evRange ev k0 H0 nt s f l m ps asg body=some (e,s')):s'.A=s.A:=by
 unfold evRange at h
 split at h
 ·rename_i r hr
  have hA:∀df:List Nat,({St.putD k0 [(s.k+1,none)] {St.putD k0 r.d (rangeSt k0 nt ps asg body s)with k:=r.k}with df:=df}:St).A=s.A:=λdf=>by
   refine(putD_A k0 [(s.k+1,none)] {St.putD k0 r.d (rangeSt k0 nt ps asg body s)with k:=r.k}).1.trans ?_
   refine(putD_A k0 r.d (rangeSt k0 nt ps asg body s)).1.trans ?_
   exact(putD_A k0 _ s).1
  unfold evRange2 at h
  split at h
  ·split at h
   ·cases h
   ·split at h
    ·cases h;exact hA _
    ·cases h;exact hA _
    ·cases h;exact hA _
    ·cases h
  ·cases h
 ·cases h
theorem cmp_keep{ev:Ev}{P:Program}{k0 nt:Nat}{H0:Hp}{inr:Bool}{t:Tmp}:∀(c:Code)(s:St)(e:Exit)(s':St),(cmp P noHook inr c).f ev k0 H0 nt s=some (e,s')->asgC t c=false->s'.A.get t=s.A.get t:=by
 intro c
 induction c with
 |skip=>intro s e s' h _;cases h;rfl
 |label l=>intro s e s' h _;cases h;rfl
 |exit id=>intro s e s' h _;cases h;rfl
 |ret=>intro s e s' h _;cases h;rfl
 |goto l=>intro s e s' h;cases h
 |refuse w=>intro s e s' h;cases h
 |region id ops draw=>
  intro s e s' h ha
  have ha:asgO t ops.toList=false:=ha
  cases draw with
  |true=>
   have h:(bif dagB ops then drawC (dops P ops.toList ops.toList (ancL ops.toList []))else noC).f ev k0 H0 nt s=some (e,s'):=h
   cases hc:dagB ops with
   |false=>rw[hc]at h;cases h
   |true=>
    rw[hc]at h
    have h:nrm (evDraw ev (dops P ops.toList ops.toList (ancL ops.toList [])) k0 H0 nt s)=some (e,s'):=h
    cases hx:evDraw ev (dops P ops.toList ops.toList (ancL ops.toList [])) k0 H0 nt s with
    |none=>rw[hx]at h;cases h
    |some s1=>
     rw[hx]at h
     cases h
     obtain⟨mks,z,hz,_,rfl⟩:=evDraw_is hx
     exact evD_keep ops.toList _ _ _ _ _ _ z hz ha
  |false=>
   have h:nrm (evSeq ev k0 H0 nt (dops P ops.toList ops.toList []) s)=some (e,s'):=h
   cases hx:evSeq ev k0 H0 nt (dops P ops.toList ops.toList []) s with
   |none=>rw[hx]at h;cases h
   |some s1=>rw[hx]at h;cases h;exact evSeq_keep _ _ _ _ hx ha
 |seq x y ihx ihy=>
  intro s e s' h ha
  have ha:(asgC t x||asgC t y)=false:=ha
  rw[Bool.or_eq_false_iff]at ha
  have h:(thenC (cmp P noHook inr x) (cmp P noHook inr y)).f ev k0 H0 nt s=some (e,s'):=h
  simp only[thenC]at h
  cases hx:(cmp P noHook inr x).f ev k0 H0 nt s with
  |none=>rw[hx]at h;cases h
  |some z=>
   obtain⟨e1,s1⟩:=z
   have h1:=ihx _ _ _ hx ha.1
   rw[hx]at h
   by_cases he:e1=.normal
   ·subst he
    exact(ihy _ _ _ h ha.2).trans h1
   ·have h:some (e1,s1)=some (e,s'):=by
     cases e1<;>first|exact absurd rfl he|exact h
    cases h
    exact h1
 |cond c x y ihx ihy=>
  intro s e s' h ha
  have ha:(asgC t x||asgC t y)=false:=ha
  rw[Bool.or_eq_false_iff]at ha
  have h:(condC c (cmp P noHook inr x) (cmp P noHook inr y)).f ev k0 H0 nt s=some (e,s'):=h
  simp only[condC]at h
  split at h
  ·rename_i b hc
   cases b with
   |true=>exact ihx _ _ _ h ha.1
   |false=>exact ihy _ _ _ h ha.2
  ·cases h
 |block id c ih=>
  intro s e s' h ha
  have h:inBlk id ((cmp P noHook inr c).f ev k0 H0 nt s)=some (e,s'):=h
  cases hx:(cmp P noHook inr c).f ev k0 H0 nt s with
  |none=>rw[hx]at h;cases h
  |some z=>
   obtain⟨e1,s1⟩:=z
   have h1:=ih _ _ _ hx ha
   rw[hx]at h
   cases e1 with
   |normal=>cases h;exact h1
   |ret=>cases h;exact h1
   |exit id'=>
    simp only[inBlk]at h
    cases hb:Nat.beq id' id with
    |true=>rw[hb]at h;cases h;exact h1
    |false=>rw[hb]at h;cases h;exact h1
   |goto l=>cases h
   |panic c=>cases h
   |outgrown=>cases h
 |scope c ih=>
  intro s e s' h ha
  have h:inScp ((cmp P noHook inr c).f ev k0 H0 nt s)=some (e,s'):=h
  cases hx:(cmp P noHook inr c).f ev k0 H0 nt s with
  |none=>rw[hx]at h;cases h
  |some z=>
   obtain⟨e1,s1⟩:=z
   have h1:=ih _ _ _ hx ha
   rw[hx]at h
   cases e1<;>first|(cases h;done)|(cases h;exact h1)
 |loop c ih=>
  intro s e s' h ha
  have h:(loopC (cmp P noHook inr c)).f ev k0 H0 nt s=some (e,s'):=h
  simp only[loopC]at h
  generalize loopFuel=m at h
  exact evLoop_keep (λs e s' hr=>ih s e s' hr ha) m s e s' h
 |rangeFunc g ps asg body _ _=>
  intro s e s' h _
  cases inr with
  |true=>cases h
  |false=>
   have h:(rangeC g ps asg body).f ev k0 H0 nt s=some (e,s'):=h
   simp only[rangeC]at h
   split at h
   ·rw[range_keep h]
   ·rw[range_keep h]
   ·cases h
end
end Go.Proofs.YtifehdoghfnhoaaGreatDoor.Ev
namespace Go.Proofs.YtifehdoghfnhoaaGreatDoor.Ev
noncomputable section
open Go.RowKit Go.Shelf Go.Maps
structure RP where
 pre:List Oper
 m:Operand
 t:TypeId
 it:Tmp
 tn:Tmp
 tok:Tmp
 te:Tmp
 ops:List Oper
 rest:Code
 all8:List Oper
 all10:List Oper
def lastO:List Oper->Option (List Oper×Oper)
 |[]=>none
 |[o]=>some ([],o)
 |o::p::l=>match lastO (p::l)with
  |some (x,y)=>some (o::x,y)
  |none=>none
theorem lastO_is:∀{l x:List Oper}{y:Oper},lastO l=some (x,y)->l=x++[y]
 |[],x,y,h=>by cases h
 |[o],x,y,h=>by cases h;rfl
 |o::p::l,x,y,h=>by
  simp only[lastO]at h
  cases hl:lastO (p::l)with
  |none=>rw[hl]at h;cases h
  |some z=>
   obtain⟨x',y'⟩:=z
   rw[hl]at h
   cases h
   rw[lastO_is hl]
   rfl
def rangeO(o:Oper):Option (Operand×TypeId×Tmp):=match o.op,o.dst,o.guard with
 | .range t m,some d,none=>some (m,t,d)
 |_,_,_=>none
def nextO(it:Tmp)(l:List Oper):Option (Tmp×Tmp):=match l with
 |[nx,ex]=>match nx.op,nx.dst,nx.guard,ex.op,ex.dst,ex.guard with
  | .next (.tmp i) false,some tn,none,.extract (.tmp j) 0,some tok,none=>bif Nat.beq i it&&Nat.beq j tn then some (tn,tok)else none
  |_,_,_,_,_,_=>none
 |_=>none
def entryO(it:Tmp)(l:List Oper):Option (Tmp×List Oper):=match l with
 |[]=>none
 |en::ops=>match en.op,en.dst,en.guard with
  | .entry (.tmp i),some te,none=>bif Nat.beq i it then some (te,ops)else none
  |_,_,_=>none
inductive Shape:Code->Code->RP->Prop where
 |mk {i8 i9 i10 id B:Nat} {o8 o9 o10:Array Oper} {rg nx ex en:Oper} {p:RP} (h8:o8.toList=p.pre++[rg]) (hrg:rg.op=.range p.t p.m/\rg.dst=some p.it/\rg.guard=none) (h9:o9.toList=[nx,ex]) (hnx:nx.op=.next (.tmp p.it) false/\nx.dst=some p.tn/\nx.guard=none)
   (hex:ex.op=.extract (.tmp p.tn) 0/\ex.dst=some p.tok/\ex.guard=none) (h10:o10.toList=en::p.ops) (hen:en.op=.entry (.tmp p.it)/\en.dst=some p.te/\en.guard=none) (ha8:p.all8=o8.toList) (ha10:p.all10=o10.toList):
   Shape (.region i8 o8 false) (.block id (.loop (.seq (.region i9 o9 false) (.seq (.cond (.tmp p.tok) .skip (.exit id)) (.block B (.seq (.region i10 o10 false) p.rest)))))) p
def shapeB(o8 o9 o10:Array Oper)(tok:Tmp)(rest:Code):Option RP:=match lastO o8.toList with
 |some (pre,rg)=>match rangeO rg with
  |some (m,t,it)=>match nextO it o9.toList with
   |some (tn,tok')=>match entryO it o10.toList with
    |some (te,ops)=>bif Nat.beq tok tok' then some ⟨pre,m,t,it,tn,tok',te,ops,rest,o8.toList,o10.toList⟩else none
    |none=>none
   |none=>none
  |none=>none
 |none=>none
def shapeC(x y:Code):Option RP:=match x with
 | .region _ o8 false=>match y with
   | .block id (.loop (.seq (.region _ o9 false) (.seq (.cond (.tmp tok) .skip (.exit id')) (.block _ (.seq (.region _ o10 false) rest)))))=>bif Nat.beq id id' then shapeB o8 o9 o10 tok rest else none
   |_=>none
 |_=>none
theorem rangeO_is{o:Oper}{m:Operand}{t:TypeId}{d:Tmp}(h:rangeO o=some (m,t,d)):o.op=.range t m/\o.dst=some d/\o.guard=none:=by
 unfold rangeO at h
 split at h
 ·rename_i h1 h2 h3;cases h;exact⟨h1,h2,h3⟩
 ·cases h
theorem nextO_is{it tn tok:Tmp}{l:List Oper}(h:nextO it l=some (tn,tok)):∃nx ex,l=[nx,ex]/\(nx.op=.next (.tmp it) false/\nx.dst=some tn/\nx.guard=none)/\(ex.op=.extract (.tmp tn) 0/\ex.dst=some tok/\ex.guard=none):=by
 unfold nextO at h
 split at h
 ·rename_i nx ex
  split at h
  ·rename_i i tn' j tok' h1 h2 h3 h4 h5 h6
   cases hb:(Nat.beq i it&&Nat.beq j tn')with
   |false=>rw[hb]at h;cases h
   |true=>
    rw[hb]at h
    cases h
    rw[Bool.and_eq_true]at hb
    have e1:=Nat.eq_of_beq_eq_true hb.1
    have e2:=Nat.eq_of_beq_eq_true hb.2
    subst e1
    subst e2
    exact⟨nx,ex,rfl,⟨h1,h2,h3⟩,h4,h5,h6⟩
  ·cases h
 ·cases h
theorem entryO_is{it te:Tmp}{l ops:List Oper}(h:entryO it l=some (te,ops)):∃en,l=en::ops/\(en.op=.entry (.tmp it)/\en.dst=some te/\en.guard=none):=by
 unfold entryO at h
 split at h
 ·cases h
 ·rename_i en ops'
  split at h
  ·rename_i i te' h1 h2 h3
   cases hb:Nat.beq i it with
   |false=>rw[hb]at h;cases h
   |true=>
    rw[hb]at h
    cases h
    have e1:=Nat.eq_of_beq_eq_true hb
    subst e1
    exact⟨en,rfl,h1,h2,h3⟩
  ·cases h
theorem shapeC_is{x y:Code}{p:RP}(h:shapeC x y=some p):Shape x y p:=by
 unfold shapeC at h
 split at h
 ·rename_i i8 o8
  split at h
  ·rename_i id i9 o9 tok id' B i10 o10 rest
   cases hb:Nat.beq id id' with
   |false=>rw[hb]at h;cases h
   |true=>
    rw[hb,cond_true]at h
    have e1:=Nat.eq_of_beq_eq_true hb
    subst e1
    unfold shapeB at h
    split at h
    ·rename_i pre rg h8
     split at h
     ·rename_i m t it hrg
      split at h
      ·rename_i tn tok' h9
       split at h
       ·rename_i te ops h10
        cases hb2:Nat.beq tok tok' with
        |false=>rw[hb2]at h;cases h
        |true=>
         rw[hb2]at h
         cases h
         have e2:=Nat.eq_of_beq_eq_true hb2
         subst e2
         obtain⟨nx,ex,g1,g2,g3⟩:=nextO_is h9
         obtain⟨en,g4,g5⟩:=entryO_is h10
         exact Shape.mk (p:=⟨pre,m,t,it,tn,tok,te,ops,rest,o8.toList,o10.toList⟩) (lastO_is h8) (rangeO_is hrg) g1 g2 g3 g4 g5 rfl rfl
       ·cases h
      ·cases h
     ·cases h
    ·cases h
  ·cases h
 ·cases h
structure Fin where
 f:CC
 c:Operand
 od:List Oper
def condF(c:Operand)(x y:Code):Option Fin:=match x,y with
 | .region _ od false,.skip=>some ⟨endC .normal,c,od.toList⟩
 |_,_=>none
def finR(P:Program)(c:Code):Option Fin:=Code.rec (motive:=λ_=>Option Fin) none (λ_ _ _=>none)
 (λx _ _ fy=>match fy with
   |some z=>some ⟨thenC (cmp P noHook false x) z.f,z.c,z.od⟩
   |none=>none)
 (λc x y _ _=>condF c x y)
 (λ_ _ _=>none) (λ_ _=>none) (λ_ _ _ _ _ _=>none) (λ_=>none) (λ_ _=>none) (λ_=>none) (λ_=>none) none (λ_=>none) c
theorem fin_ok{P:Program}(hm:P.follows .mixedOrders=true):∀(c:Code)(z:Fin),finR P c=some z->∀{ev:Ev}{k0 nt:Nat}{H0:Hp},EvOk P ev->∀(s:St)(e:Exit)(s':St),z.f.f ev k0 H0 nt s=some (e,s')->e=.normal->
 s.k<=s'.k/\(∀t,asgC t c=false->s'.A.get t=s.A.get t)/\∃(i:Nat)(od:Array Oper),od.toList=z.od/\(∀t,asgC t c=false->asgO t z.od=false)/\∀{N:Nat}{ρ:Rho}{a:Act}{W:World}(n:Nat),StR N k0 nt H0 ρ s a W->Free ρ s.k s'.k->∀Q:Exit->Act->World->Prop,(∀a' W',Ends N k0 nt H0 ρ s W s' a' W'->(Code.cond z.c (.region i od false) .skip).wpIn (Fc none) n P Q a' W')->c.wpIn (Fc none) n P Q a W:=by
 intro c
 induction c with
 |seq x y _ ihy=>
  intro z hz ev k0 nt H0 hev s e s' h hn
  have hz:(match finR P y with|some z=>some (⟨thenC (cmp P noHook false x) z.f,z.c,z.od⟩:Fin)|none=>none)=some z:=hz
  cases hy:finR P y with
  |none=>rw[hy]at hz;cases hz
  |some z'=>
   rw[hy]at hz
   cases hz
   simp only[thenC]at h
   cases hx:(cmp P noHook false x).f ev k0 H0 nt s with
   |none=>rw[hx]at h;cases h
   |some w=>
    obtain⟨e1,s1⟩:=w
    rw[hx]at h
    have h1:=code_ok (noHook_ok P) hev hm _ _ _ _ hx
    by_cases he:e1=.normal
    ·subst he
     obtain⟨g1,g2,i,od,g3,g4,g5⟩:=ihy z' hy hev s1 e s' h hn
     refine⟨Nat.le_trans h1.1 g1,λt ht=>?_,i,od,g3,λt ht=>?_,λ{N ρ a W}n hs hf Q hQ=>wpIn_seq (h1.2 none n (λ_=>rfl) hs (hf.sub (Nat.le_refl _) g1) _ (λa' W' hE=>?_))⟩
     ·have ht:(asgC t x||asgC t y)=false:=ht
      rw[Bool.or_eq_false_iff]at ht
      exact(g2 t ht.2).trans (cmp_keep x s _ s1 hx ht.1)
     ·have ht:(asgC t x||asgC t y)=false:=ht
      rw[Bool.or_eq_false_iff]at ht
      exact g4 t ht.2
     ·obtain⟨ρ',q1,q2,q3⟩:=hE.st h1.1 hf
      exact g5 n q1 q2 Q (λa'' W'' hE'=>hQ _ _ (q3 _ _ _ g1 hE'))
    ·have h:some (e1,s1)=some (e,s'):=by
      cases e1<;>first|exact absurd rfl he|exact h
     cases h
     exact absurd hn he
 |cond c x y ihx ihy=>
  clear ihx ihy
  intro z hz ev k0 nt H0 hev s e s' h hn
  have hz:condF c x y=some z:=hz
  unfold condF at hz
  split at hz
  ·rename_i i od _
   cases hz
   cases h
   refine⟨Nat.le_refl _,λ_ _=>rfl,i,od,rfl,λt ht=>?_,λ{N ρ a W}n hs hf Q hQ=>hQ a W (Ends.refl hs)⟩
   have ht:(asgO t od.toList||false)=false:=ht
   rwa[Bool.or_false]at ht
  ·cases hz
 |_=>intro z hz;cases hz
theorem seq_okT{ev:Ev}{P:Program}{ops:Array Oper}{k0 nt:Nat}{H0:Hp}(hev:EvOk P ev):∀(os tl:List Oper)(ans:List Nat)(i:Nat)(s s':St),ops.toList.drop i=os++tl->evSeq ev k0 H0 nt (dops P ops.toList os ans) s=some s'->
 s.k<=s'.k/\∀{N:Nat}{ρ:Rho}{a:Act}{W:World}(R:Option Nat)(n:Nat),StR N k0 nt H0 ρ s a W->Free ρ s.k s'.k->∀(Q:Exit->Act->World->Prop)(rest:List Nat),(∀a' W',Ends N k0 nt H0 ρ s W s' a' W'->wpOpsIn (Fc R) n P ops Q rest a' W')->wpOpsIn (Fc R) n P ops Q (List.range' i os.length++rest) a W
 |[],tl,ans,i,s,s',hd,h=>by
  cases h
  exact⟨Nat.le_refl _,λR n hs _ Q rest hQ=>hQ _ _ (Ends.refl hs)⟩
 |o::os,tl,ans,i,s,s',hd,h=>by
  simp only[dops,evSeq_cons,dec_is]at h
  split at h
  ·rename_i r hr
   split at h
   ·rename_i s1 hp
    have hi:ops[i]? =some o:=by
     have:(ops.toList.drop i)[0]? =some o:=by rw[hd];rfl
     simpa using this
    have hd':ops.toList.drop (i+1)=os++tl:=by rw[<-List.drop_drop,hd];rfl
    obtain⟨h1,h2⟩:=seq_okT hev os tl (tlN ans) (i+1) s1 s' hd' h
    have h3:=λ{N ρ a W}=>op_step (N:=N) (ρ:=ρ) (a:=a) (W:=W) hev hr hp hi
    have h4:=(h3 (N:=0) (ρ:=λ_=>none) (a:=⟨#[],[]⟩) (W:=default)).1
    refine⟨Nat.le_trans h4 h1,λ{N ρ a W}R n hs hf Q rest hQ=>?_⟩
    rw[show List.range' i (o::os).length++rest=i::(List.range' (i+1) os.length++rest)from rfl,wpOpsIn_cons]
    refine h3.2 R n hs (hf.sub (Nat.le_refl _) h1) _ Q (λa' W' he=>?_)
    obtain⟨ρ',g1,g2,g3⟩:=he.st h4 hf
    exact h2 R n g1 g2 Q rest (λa'' W'' he'=>hQ _ _ (g3 _ _ _ h1 he'))
   ·cases h
  ·cases h
theorem op_val{P:Program}{ops:Array Oper}{Q:Exit->Act->World->Prop}{o:Oper}{a:Act}{W W':World}{v:Value}{sm:Sem Value}{K:Act->World->Prop}{i:Nat}(R:Option Nat)(n:Nat)(hi:ops[i]? =some o) (hg:o.guard=none) (hnd:∀c,o.op≠.defer c)
 (he:execOp a.eval o=(do pure (.value (<-sm)))) (hr:sm.run P W=.ok v W') (hK:K (a.put o.dst v) W'):wpOpIn (Fc R) n P ops Q i K a W:=by
 unfold wpOpIn
 rw[hi]
 simp only[Region.wanted,hg,if_true]
 refine wpIn_of_does (R:=λu w=>u=v/\w=W') (fc_lets R n P) hnd ?_ (λu w⟨h1,h2⟩=>by rw[h1,h2];exact hK)
 unfold dsA
 rw[he,Sem.run_bind,hr]
 exact⟨rfl,rfl⟩
def nilD':Dl->Bool
 |[]=>true
 |_=>false
def eqN:List Nat->List Nat->Bool
 |[],[]=>true
 |a::l,b::m=>Nat.beq a b&&eqN l m
 |_,_=>false
theorem eqN_is:∀{l m:List Nat},eqN l m=true->l=m
 |[],[],_=>rfl
 |[],_::_,h=>by cases h
 |_::_,[],h=>by cases h
 |a::l,b::m,h=>by
  simp only[eqN,Bool.and_eq_true]at h
  rw[Nat.eq_of_beq_eq_true h.1,eqN_is h.2]
def litEq(a b:Lit):Bool:=a.sameKey b
theorem litEq_is{a b:Lit}(h:litEq a b=true):a=b:=by
 apply Classical.byContradiction
 intro hne
 unfold litEq at h
 rw[sameKey_ne hne]at h
 cases h
def delO(P:Program)(ev:Ev)(k1:Nat)(Hh:Hp)(nt:Nat)(n:Nat)(kt:TypeId)(kl:Lit)(df:List Nat)(od:List Oper)(s:St):Option Nat:=match lastO od with
 |some (pre,dl)=>match evSeq ev k1 Hh nt (dops P od pre []) s with
  |some s4=>bif nilD' s4.Do&&eqN s4.df df then match dl.op,dl.dst,dl.guard with
   | .call c,none,none=>match c.callee,c.args.toList,c.argTypes.toList with
     | .builtin .delete,[x,y],[t,t']=>match evA s4.A x with
       | .mp n'=>match mapT t,keyA kt (evA s4.A y)with
         |some (kt',_),some kl'=>bif Nat.beq n n'&&(Nat.beq kt kt'&&(Nat.beq kt t'&&litEq kl' kl))then some s4.k else none
         |_,_=>none
       |_=>none
     |_,_,_=>none
   |_,_,_=>none
   else none
  |none=>none
 |none=>none
def roundR(P:Program)(ev:Ev)(k1:Nat)(Hh:Hp)(nt:Nat)(A:T AV)(df:List Nat)(n:Nat)(kt:TypeId)(p:RP)(z:Fin)(key v:Value)(kl:Lit):Option (Nat×Bool):=
 match evSeq ev k1 Hh nt (dops P p.all10 p.ops []) ⟨((A.set p.tn (some (.lit (.tuple #[.bool true,key,v])))).set p.tok (some (.lit (.bool true)))).set p.te (some (.lit (.tuple #[key,v]))),[],.e,k1,df⟩with
 |some s2=>match z.f.f ev k1 Hh nt s2 with
  |some (.normal,s3)=>bif nilD' s3.Do&&eqN s3.df df then match evA s3.A z.c with
   | .lit (.bool false)=>some (s3.k,false)
   | .lit (.bool true)=>match delO P ev k1 Hh nt n kt kl df z.od s3 with
     |some k=>some (k,true)
     |none=>none
   |_=>none
   else none
  |_=>none
 |none=>none
def findK(kf:Value->Option Lit)(kl:Lit):List Value->Option Value
 |[]=>none
 |k::ks=>match kf k with
  |some l=>bif litEq l kl then some k else findK kf kl ks
  |none=>findK kf kl ks
def allR(f:Value->Value->Lit->Option (Nat×Bool))(kf:Value->Option Lit)(ks:List Value):List (Lit×DataW Value)->Nat->Option (Nat×List (Lit×Bool))
 |[],k=>some (k,[])
 |(kl,d)::es,k=>match findK kf kl ks,heldV d with
  |some key,some v=>match f key v kl with
   |some (k',b)=>match allR f kf ks es (bif Nat.ble k k' then k' else k)with
    |some (km,l)=>some (km,(kl,b)::l)
    |none=>none
   |none=>none
  |_,_=>none
def asgR(p:RP)(t:Tmp):Bool:=(Nat.beq p.tn t||(Nat.beq p.tok t||(Nat.beq p.te t||(asgO t p.ops||asgC t p.rest))))
def killT(f:Nat->Bool):Nat->T AV->T AV
 |0,A=>A
 |m+1,A=>bif f m then(killT f m A).set m (some .dead)else killT f m A
def delsD:List (Lit×Bool)->DataW Value->DataW Value
 |[],D=>D
 |(kl,b)::l,D=>bif b then delsD l (D.del kl)else delsD l D
def entriesD:DataW Value->Option (List (Lit×DataW Value))
 | .map es=>some es
 |_=>none
def loopA(p:RP)(nt:Nat)(s:St):T AV:=(killT (asgR p) nt s.A).set p.it (some (.ptr s.k 0))
def slotsOk(p:RP)(nt:Nat):Bool:=Nat.blt p.it nt&&(Nat.blt p.tn nt&&(Nat.blt p.tok nt&&(Nat.blt p.te nt&&!(asgR p p.it))))
def mapLoop(P:Program)(p:RP)(z:Fin):CC:=⟨λev k0 H0 nt s=>match evSeq ev k0 H0 nt (dops P p.all8 p.pre []) s with
 |some s1=>match evA s1.A p.m with
  | .mp n=>match s1.hp k0 H0 n with
    |some (.mp kt D c ks)=>match mapT p.t,entriesD D with
     |some (kt',_),some es=>bif Nat.beq kt kt'&&slotsOk p nt then
      match allR (roundR P ev (s1.k+1) (hideN n (s1.hp k0 H0)) nt (loopA p nt s1) s1.df n kt p z) (keyOf Tryz.prog kt) ks es (s1.k+1)with
      |some (km,l)=>some (.normal,{St.putD k0 [(n,some (.mp kt (delsD l D) c ks))] s1 with A:=loopA p nt s1,k:=km})
      |none=>none
      else none
     |_,_=>none
    |_=>none
  |_=>none
 |none=>none⟩
def mapHook(P:Program):Hook:=λinr x y=>bif inr then none else match shapeC x y with
 |some p=>match finR P p.rest with
  |some z=>some (mapLoop P p z)
  |none=>none
 |none=>none
def cutH'(k0:Nat)(H:Hp):Hp:=λn=>bif Nat.ble k0 n then none else H n
theorem cutH_hp(k1:Nat)(Hh:Hp)(s:St)(h:nilD' s.Do=true):Sub (cutH' k1 Hh) (s.hp k1 Hh):=λm o hm=>by
 unfold cutH' at hm
 unfold St.hp
 cases hb:Nat.ble k1 m with
 |true=>rw[hb]at hm;cases hm
 |false=>
  rw[hb]at hm
  rw[cond_false]
  cases hd:s.Do with
  |nil=>exact hm
  |cons a l=>rw[hd]at h;cases h
theorem asgR_no{p:RP}{t:Tmp}(h:asgR p t=false):t≠p.tn/\t≠p.tok/\t≠p.te/\asgO t p.ops=false/\asgC t p.rest=false:=by
 unfold asgR at h
 simp only[Bool.or_eq_false_iff]at h
 obtain⟨h1,h2,h3,h4,h5⟩:=h
 exact⟨(λe=>by rw[T.beq_yes e.symm]at h1;cases h1),(λe=>by rw[T.beq_yes e.symm]at h2;cases h2),(λe=>by rw[T.beq_yes e.symm]at h3;cases h3),h4,h5⟩
structure Mid(N:Nat)(ρ:Rho)(Hc:Hp)(A:T AV)(nt:Nat)(df:List Nat)(W:World)(a':Act)(W':World):Prop where
 keep:Keep ρ Hc W W'
 heap:RelH N ρ Hc W'
 tmps:RelT ρ A nt a'.tmps
 defers:DfR ρ df a'.defers
theorem round_ok{P:Program}{ev:Ev}(_:P=Tryz.prog)(hm:P.follows .mixedOrders=true)(hev:EvOk P ev){p:RP}{z:Fin}(hz:finR P p.rest=some z){k1 nt:Nat}{Hh:Hp}{A:T AV}{df:List Nat}{n:Nat}{kt:TypeId}{key v:Value}{kl:Lit}{km:Nat}{b:Bool}
 (h:roundR P ev k1 Hh nt A df n kt p z key v kl=some (km,b))(hte:p.te<nt)(hA:∀t,t<nt->asgR p t=true->A.get t=some .dead){i10:Nat}{o10:Array Oper}{en:Oper}(h10:o10.toList=en::p.ops)(ha10:p.all10=o10.toList)(hen:en.op=.entry (.tmp p.it)/\en.dst=some p.te/\en.guard=none):
 k1<=km/\∀{N:Nat}{ρ:Rho}{a:Act}{W:World}(n':Nat),RelH N ρ (cutH' k1 Hh) W->RelT ρ ((A.set p.tn (some (.lit (.tuple #[.bool true,key,v])))).set p.tok (some (.lit (.bool true)))) nt a.tmps->(∃us,RelT ρ A nt us)->DfR ρ df a.defers->Free ρ k1 km->(∃mb κ,ρ n=some (mb,κ))->
  (Instr.entry (a.eval (.tmp p.it))).run P W=.ok (.tuple #[key,v]) W->∀Q:Exit->Act->World->Prop,
  (∀a' W',Mid N ρ (cutH' k1 Hh) A nt df W a' W'->if b then(∀t kt' ty mb κ key',mapT t=some (kt,kt')->ρ n=some (mb,κ)->keyOf Tryz.prog kt key'=some kl->∃W'',(Builtin.delete_ #[t,kt] ty #[.map (some mb),key']).run P W'=.ok (.tuple #[]) W''/\Q .normal a' W'')else Q .normal a' W')->
  (Code.seq (.region i10 o10 false) p.rest).wpIn (Fc none) n' P Q a W:=by
 unfold roundR at h
 split at h
 ·rename_i s2 hs2
  split at h
  ·rename_i s3 hs3
   cases hd:(nilD' s3.Do&&eqN s3.df df)with
   |false=>rw[hd]at h;cases h
   |true=>
    rw[hd,cond_true]at h
    rw[Bool.and_eq_true]at hd
    have hdf:=eqN_is hd.2
    rw[ha10]at hs2
    obtain⟨q1,q2⟩:=seq_ok (nt:=nt) hev p.ops [] 1 _ s2 (by rw[h10];rfl) hs2
    obtain⟨f1,f2,i,od,f3,f4,f5⟩:=fin_ok hm p.rest z hz hev s2 _ s3 hs3 rfl
    have q1:k1<=s2.k:=q1
    have hslots:∀{s':St},(∀t,asgR p t=false->s'.A.get t=A.get t)->∀{ρ ρ':Rho}{us vs:Array Value},ρ.le ρ'->RelT ρ A nt us->RelT ρ' s'.A nt vs->RelT ρ A nt vs:=λ{s'}hk{ρ ρ' us vs}hle hu hv=>by
     refine⟨hv.1,λt=>?_⟩
     cases ha:asgR p t with
     |false=>
      have h1:=hv.2 t
      rw[hk t ha]at h1
      exact RelV.back hle _ _ _ (hu.2 t) h1
     |true=>
      by_cases ht:t<nt
      ·rw[hA t ht ha];trivial
      ·have h1:vs.getD t undef=undef:=by rw[Array.getD_eq_getD_getElem?,Array.getElem?_eq_none (by rw[hv.1];omega)];rfl
       have h2:us.getD t undef=undef:=by rw[Array.getD_eq_getD_getElem?,Array.getElem?_eq_none (by rw[hu.1];omega)];rfl
       rw[h1,<-h2]
       exact hu.2 t
    have hk3:∀t,asgR p t=false->s3.A.get t=A.get t:=λt ht=>by
     obtain⟨e1,e2,e3,e4,e5⟩:=asgR_no ht
     rw[f2 t e5,evSeq_keep _ _ _ _ hs2 e4]
     show((((A.set p.tn _).set p.tok _).set p.te _).get t)=_
     rw[T.get_set,if_neg e3,T.get_set,if_neg e2,T.get_set,if_neg e1]
    have walk:∀{N:Nat}{ρ:Rho}{a:Act}{W:World}(n':Nat),k1<=km->s3.k<=km->RelH N ρ (cutH' k1 Hh) W->RelT ρ ((A.set p.tn (some (.lit (.tuple #[.bool true,key,v])))).set p.tok (some (.lit (.bool true)))) nt a.tmps->(∃us,RelT ρ A nt us)->DfR ρ df a.defers->Free ρ k1 km->
     (Instr.entry (a.eval (.tmp p.it))).run P W=.ok (.tuple #[key,v]) W->∀Q:Exit->Act->World->Prop,(∀a' W' ρ',ρ.le ρ'->Post N ρ (cutH' k1 Hh) W (s3.hp k1 Hh) k1 s3.k ρ' W'->RelT ρ' s3.A nt a'.tmps->DfR ρ' s3.df a'.defers->(Code.cond z.c (.region i od false) .skip).wpIn (Fc none) n' P Q a' W')->(Code.seq (.region i10 o10 false) p.rest).wpIn (Fc none) n' P Q a W:=by
     intro N ρ a W n' _ hkm hH hT _ hD hf hent Q hQ
     refine wpIn_seq (wpIn_region ?_)
     have hrange:List.range o10.size=0::List.range' 1 p.ops.length:=by
      rw[<-Array.length_toList,h10,List.range_eq_range'];rfl
     rw[hrange,wpOpsIn_cons]
     have hi:o10[0]? =some en:=by
      have:o10.toList[0]? =some en:=by rw[h10];rfl
      simpa using this
     refine op_val none n' hi hen.2.2 (λc hc=>by rw[hen.1]at hc;cases hc) (sm:=Instr.entry (a.eval (.tmp p.it))) (by unfold execOp;rw[hen.1]) hent ?_
     rw[hen.2.1]
     have hst:StR N k1 nt Hh ρ ⟨((A.set p.tn (some (.lit (.tuple #[.bool true,key,v])))).set p.tok (some (.lit (.bool true)))).set p.te (some (.lit (.tuple #[key,v]))),[],.e,k1,df⟩ (a.put (some p.te) (.tuple #[key,v])) W:=
      ⟨hH,hT.set hte rfl,hD⟩
     refine q2 none n' hst (hf.sub (Nat.le_refl _) (by omega)) _ (λa1 W1 hE=>?_)
     obtain⟨ρ1,g1,g2,g3⟩:=hE.st q1 hf
     refine f5 n' g1 (g2.sub (Nat.le_refl _) hkm) Q (λa2 W2 hE2=>?_)
     obtain⟨ρ2,p1,p2,p3⟩:=g3 _ _ _ f1 hE2
     exact hQ a2 W2 ρ2 p1.le p1 p2 p3
    split at h
    ·rename_i hc
     cases h
     refine⟨Nat.le_trans q1 f1,λ{N ρ a W}n' hH hT hb hD hf hnb hent Q hQ=>walk n' (Nat.le_trans q1 f1) (Nat.le_refl _) hH hT hb hD hf hent Q (λa' W' ρ' hle hp hT' hD'=>?_)⟩
     refine wpIn_cond_false (by have:=evA_rel hT' z.c;rw[hc]at this;exact this) (wpIn_skip ?_)
     have hmid:Mid N ρ (cutH' k1 Hh) A nt df W a' W':=⟨hp.keep,RelH.back hle hH (hp.heap.sub (cutH_hp k1 Hh s3 hd.1)),by obtain⟨us,hu⟩:=hb;exact hslots hk3 hle hu hT',by rw[hdf]at hD';exact DfR.back hle hD hD'⟩
     exact hQ a' W' hmid
    ·rename_i hc
     split at h
     ·rename_i k4 hdel
      cases h
      unfold delO at hdel
      split at hdel
      ·rename_i pre dl hlast
       have hodl:=lastO_is hlast
       split at hdel
       ·rename_i s4 hs4
        cases hd4:(nilD' s4.Do&&eqN s4.df df)with
        |false=>rw[hd4]at hdel;cases hdel
        |true=>
         rw[hd4,cond_true]at hdel
         rw[Bool.and_eq_true]at hd4
         have hdf4:=eqN_is hd4.2
         rw[<-f3]at hs4 hodl
         obtain⟨r1,r2⟩:=seq_okT (nt:=nt) (H0:=Hh) (k0:=k1) hev pre [dl] [] 0 s3 s4 hodl hs4
         split at hdel
         ·rename_i c hop hdst hgd
          split at hdel
          ·rename_i x y t t' hcal hargs htys
           split at hdel
           ·rename_i n2 hx
            split at hdel
            ·rename_i kt' ety kl' hmt hky
             cases hcc:(Nat.beq n n2&&(Nat.beq kt kt'&&(Nat.beq kt t'&&litEq kl' kl)))with
             |false=>rw[hcc]at hdel;cases hdel
             |true=>
              rw[hcc]at hdel
              cases hdel
              simp only[Bool.and_eq_true]at hcc
              obtain⟨c1,c2,c3,c4⟩:=hcc
              have c1:=Nat.eq_of_beq_eq_true c1
              have c2:=Nat.eq_of_beq_eq_true c2
              have c3:=Nat.eq_of_beq_eq_true c3
              have c4:=litEq_is c4
              subst c1
              subst c2
              subst c3
              subst c4
              have hk34:s3.k<=s4.k:=r1
              have hk14:k1<=s4.k:=Nat.le_trans (Nat.le_trans q1 f1) hk34
              refine⟨hk14,λ{N ρ a W}n' hH hT hb hD hf hnb hent Q hQ=>walk n' hk14 hk34 hH hT hb hD hf hent Q (λa' W' ρ' hle hp hT' hD'=>?_)⟩
              refine wpIn_cond_true (by have:=evA_rel hT' z.c;rw[hc]at this;exact this) (wpIn_region ?_)
              have hrange:List.range od.size=List.range' 0 pre.length++[pre.length]:=by
               rw[<-Array.length_toList,hodl,List.length_append,List.range_eq_range']
               show List.range' 0 (pre.length+1)=_
               rw[List.range'_concat]
               simp
              rw[hrange]
              refine r2 none n' ⟨hp.heap,hT',hD'⟩ (hf.post hp (Nat.le_trans q1 f1)) Q [pre.length] (λa4 W4 hE4=>?_)
              obtain⟨ρ4,p1,p2,p3⟩:=hE4
              have hp4:=hp.trans p1 (Nat.le_trans q1 f1) hk34
              rw[wpOpsIn_cons]
              have hi:od[pre.length]? =some dl:=by
               have:od.toList[pre.length]? =some dl:=by rw[hodl];simp
               simpa using this
              have hk4:∀t,asgR p t=false->s4.A.get t=A.get t:=λt ht=>by
               obtain⟨e1,e2,e3,e4,e5⟩:=asgR_no ht
               have h6:=f4 t e5
               rw[<-f3,hodl]at h6
               have h7:asgO t pre=false:=by
                unfold asgO at h6 ⊢
                rw[List.any_append,Bool.or_eq_false_iff]at h6
                exact h6.1
               rw[evSeq_keep _ _ _ _ hs4 h7]
               exact hk3 t ht
              have hmid:Mid N ρ (cutH' k1 Hh) A nt df W a4 W4:=⟨hp4.keep,RelH.back hp4.le hH (hp4.heap.sub (cutH_hp k1 Hh s4 hd4.1)),by obtain⟨us,hu⟩:=hb;exact hslots hk4 hp4.le hu p2,by rw[hdf4]at p3;exact DfR.back hp4.le hD p3⟩
              have h8:=hQ a4 W4 hmid
              simp only[if_true]at h8
              obtain⟨mb,κ,hnb⟩:=hnb
              have hxv:=evA_rel p2 x
              rw[hx]at hxv
              obtain⟨mb',κ',e1,e2⟩:=hxv
              rw[hp4.le _ _ hnb]at e1
              cases e1
              have hyv:=keyA_is hky (evA_rel p2 y)
              obtain⟨W5,e3,e4⟩:=h8 t ety dl.type mb κ (a4.eval y) hmt hnb hyv
              have hrun:=builtin_run (a:=a4) hop hcal
              rw[hargs,list2 htys]at hrun
              simp only[List.map_cons,List.map_nil,e2]at hrun
              refine op_val none n' hi hgd (λc hc=>by rw[hop]at hc;cases hc) hrun e3 ?_
              rw[hdst]
              exact e4
            ·cases hdel
           ·cases hdel
          ·cases hdel
         ·cases hdel
       ·cases hdel
      ·cases hdel
     ·cases h
    ·cases h
  ·cases h
 ·cases h
end
end Go.Proofs.YtifehdoghfnhoaaGreatDoor.Ev
