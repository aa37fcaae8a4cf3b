/- Closed calls are reckoned by the kernel: heaps by name, and what a world holds of them. -/
import Derived.Test.YtifehdoghfnhoaaGreatDoorZApp
import Derived.Maps.AppendAt
import Derived.RangeFuncNested
import Derived.RangeFuncBound
import Derived.RangeFuncLeaves
import Derived.Maps.OwnIn
import Derived.Maps.Range
import Derived.Maps.OwnSet
namespace Go.Proofs.YtifehdoghfnhoaaGreatDoor.Ev
noncomputable section
open Go.RowKit Go.Shelf
inductive T(α:Type)where
 |e
 |n (v:Option α) (l r:T α)
namespace T
variable{α:Type}
def get(t:T α):Nat->Option α:=
 T.rec (motive:=λ_=>Nat->Option α) (λ_=>none) (λv _ _ gl gr i=>bif Nat.beq i 0 then v else bif Nat.beq (Nat.mod i 2) 1 then gl (Nat.div i 2)else gr (Nat.sub (Nat.div i 2) 1)) t
def setF(f:Nat):T α->Nat->Option α->T α:=
 Nat.rec (motive:=λ_=>T α->Nat->Option α->T α) (λt _ _=>t) (λ_ ih t i x=>T.casesOn (motive:=λ_=>T α) t
  (bif Nat.beq i 0 then .n x .e .e else bif Nat.beq (Nat.mod i 2) 1 then .n none (ih .e (Nat.div i 2) x) .e else .n none .e (ih .e (Nat.sub (Nat.div i 2) 1) x))
  (λv l r=>bif Nat.beq i 0 then .n x l r else bif Nat.beq (Nat.mod i 2) 1 then .n v (ih l (Nat.div i 2) x) r else .n v l (ih r (Nat.sub (Nat.div i 2) 1) x))) f
def set(t:T α)(i:Nat)(x:Option α):T α:=setF (i+1) t i x
theorem beq_no{i j:Nat}(h:i≠j):Nat.beq i j=false:=by
 cases hb:Nat.beq i j with
 |false=>rfl
 |true=>exact absurd (Nat.eq_of_beq_eq_true hb) h
theorem beq_yes{i j:Nat}(h:i=j):Nat.beq i j=true:=by subst h;exact Nat.beq_refl i
theorem get_odd{v:Option α}{l r:T α}{i:Nat}(h:i % 2=1):(T.n v l r).get i=l.get (i / 2):=by
 show(bif Nat.beq i 0 then v else bif Nat.beq (Nat.mod i 2) 1 then l.get (Nat.div i 2)else r.get (Nat.sub (Nat.div i 2) 1))=_
 rw[beq_no (show i≠0 by omega),beq_yes (show Nat.mod i 2=1 from h)]
 rfl
theorem get_even{v:Option α}{l r:T α}{i:Nat}(h0:i≠0)(h:i % 2≠1):(T.n v l r).get i=r.get (i / 2-1):=by
 show(bif Nat.beq i 0 then v else bif Nat.beq (Nat.mod i 2) 1 then l.get (Nat.div i 2)else r.get (Nat.sub (Nat.div i 2) 1))=_
 rw[beq_no h0,beq_no (show Nat.mod i 2≠1 from h)]
 rfl
theorem set_odd{x v:Option α}{l r:T α}{f i:Nat}(h:i % 2=1):setF (f+1) (T.n v l r) i x=.n v (setF f l (i / 2) x) r:=by
 show(bif Nat.beq i 0 then T.n x l r else bif Nat.beq (Nat.mod i 2) 1 then .n v (setF f l (Nat.div i 2) x) r else .n v l (setF f r (Nat.sub (Nat.div i 2) 1) x))=_
 rw[beq_no (show i≠0 by omega),beq_yes (show Nat.mod i 2=1 from h)]
 rfl
theorem set_even{x v:Option α}{l r:T α}{f i:Nat}(h0:i≠0)(h:i % 2≠1):setF (f+1) (T.n v l r) i x=.n v l (setF f r (i / 2-1) x):=by
 show(bif Nat.beq i 0 then T.n x l r else bif Nat.beq (Nat.mod i 2) 1 then .n v (setF f l (Nat.div i 2) x) r else .n v l (setF f r (Nat.sub (Nat.div i 2) 1) x))=_
 rw[beq_no h0,beq_no (show Nat.mod i 2≠1 from h)]
 rfl
theorem get_none(j:Nat):(T.n (none:Option α) .e .e).get j=none:=by
 by_cases h0:j=0
 ·subst h0;rfl
 ·by_cases h:j % 2=1
  ·rw[get_odd h];rfl
  ·rw[get_even h0 h];rfl
theorem get_setF(x:Option α):∀(f i:Nat)(t:T α)(j:Nat),i<f->(setF f t i x).get j=if j=i then x else t.get j:=by
 intro f
 induction f with
 |zero=>intro i t j h;omega
 |succ f ih=>
  have key:∀(i:Nat)(v:Option α)(l r:T α)(j:Nat),i<f+1->(setF (f+1) (.n v l r) i x).get j=if j=i then x else(T.n v l r).get j:=by
   intro i v l r j h
   by_cases h0:i=0
   ·subst h0
    show(T.n x l r).get j=_
    by_cases hj:j=0
    ·subst hj;rfl
    ·rw[if_neg hj]
     by_cases hj1:j % 2=1
     ·rw[get_odd hj1,get_odd hj1]
     ·rw[get_even hj hj1,get_even hj hj1]
   ·by_cases h1:i % 2=1
    ·rw[set_odd h1]
     by_cases hj:j=0
     ·subst hj
      rw[if_neg (λe=>h0 e.symm)];rfl
     ·by_cases hj1:j % 2=1
      ·rw[get_odd hj1,get_odd hj1,ih _ _ _ (by omega)]
       by_cases e:j=i
       ·subst e;rw[if_pos rfl,if_pos rfl]
       ·rw[if_neg e,if_neg (by omega)]
      ·rw[get_even hj hj1,get_even hj hj1,if_neg (λe=>hj1 (by rw[e];exact h1))]
    ·rw[set_even h0 h1]
     by_cases hj:j=0
     ·subst hj
      rw[if_neg (λe=>h0 e.symm)];rfl
     ·by_cases hj1:j % 2=1
      ·rw[get_odd hj1,get_odd hj1,if_neg (λe=>h1 (by rw[<-e];exact hj1))]
      ·rw[get_even hj hj1,get_even hj hj1,ih _ _ _ (by omega)]
       by_cases e:j=i
       ·subst e;rw[if_pos rfl,if_pos rfl]
       ·rw[if_neg e,if_neg (by omega)]
  intro i t j h
  cases t with
  |n v l r=>exact key i v l r j h
  |e=>
   rw[show setF (f+1) (T.e:T α) i x=setF (f+1) (.n none .e .e) i x from rfl,key i none .e .e j h,get_none]
   rfl
theorem get_set(t:T α)(i:Nat)(x:Option α)(j:Nat):(t.set i x).get j=if j=i then x else t.get j:=get_setF x (i+1) i t j (by omega)
end T
inductive AV where
 |lit (v:Value)
 |ptr (n o:Nat)
 |sl (n o l lb es:Nat) (ex:Bool)
 |emp (n:Nat)
 |agg (cs:List AV)
 |tup (cs:List AV)
 |fn (f:Fn) (first cap:List AV)
 |mp (n:Nat)
 |yld (n:Nat)
 |dead
abbrev Rho:=Nat->Option (Nat×Nat)
mutual
def RelV(ρ:Rho):AV->Value->Prop
 | .lit x,v=>v=x
 | .ptr n o,v=>∃b κ,ρ n=some (b,κ)/\v=.pointer (some ⟨b,o,none⟩)
 | .sl n o l lb es ex,v=>∃b κ c,ρ n=some (b,κ)/\v=.slice (some ⟨b,o,none⟩) l c/\l<=lb/\(if ex then c=lb else lb<=c)/\o+c*es<=κ/\c<=maxLen
 | .emp n,v=>∃b κ o c,ρ n=some (b,κ)/\v=.slice (some ⟨b,o,none⟩) 0 c
 | .agg cs,v=>∃vs,RelL ρ cs vs/\v=.agg vs.toArray
 | .tup cs,v=>∃vs,RelL ρ cs vs/\v=.tuple vs.toArray
 | .fn f a c,v=>∃xs cs,RelL ρ a xs/\RelL ρ c cs/\v=.func f xs.toArray cs.toArray
 | .mp n,v=>∃b κ,ρ n=some (b,κ)/\v=.map (some b)
 | .yld n,v=>∃b κ,ρ n=some (b,κ)/\v=.func (.yield b) #[] #[]
 | .dead,_=>True
def RelL(ρ:Rho):List AV->List Value->Prop
 |[],vs=>vs=[]
 |a::xs,vs=>∃v vs',RelV ρ a v/\RelL ρ xs vs'/\vs=v::vs'
end
def Rho.le(ρ ρ':Rho):Prop:=∀n x,ρ n=some x->ρ' n=some x
theorem Rho.le.refl(ρ:Rho):ρ.le ρ:=λ_ _ h=>h
theorem Rho.le.trans{ρ ρ' ρ'':Rho}(h:ρ.le ρ')(h':ρ'.le ρ''):ρ.le ρ'':=λn x hx=>h' n x (h n x hx)
mutual
theorem RelV.mono{ρ ρ':Rho}(h:ρ.le ρ'):∀(a:AV)(v:Value),RelV ρ a v->RelV ρ' a v
 | .lit _,_,hv=>hv
 | .ptr _ _,_,⟨b,κ,h1,h2⟩=>⟨b,κ,h _ _ h1,h2⟩
 | .sl _ _ _ _ _ _,_,⟨b,κ,c,h1,h2⟩=>⟨b,κ,c,h _ _ h1,h2⟩
 | .emp _,_,⟨b,κ,o,c,h1,h2⟩=>⟨b,κ,o,c,h _ _ h1,h2⟩
 | .agg cs,_,⟨vs,h1,h2⟩=>⟨vs,RelL.mono h cs vs h1,h2⟩
 | .tup cs,_,⟨vs,h1,h2⟩=>⟨vs,RelL.mono h cs vs h1,h2⟩
 | .fn _ a c,_,⟨xs,cs,h1,h2,h3⟩=>⟨xs,cs,RelL.mono h a xs h1,RelL.mono h c cs h2,h3⟩
 | .mp _,_,⟨b,κ,h1,h2⟩=>⟨b,κ,h _ _ h1,h2⟩
 | .yld _,_,⟨b,κ,h1,h2⟩=>⟨b,κ,h _ _ h1,h2⟩
 | .dead,_,_=>trivial
theorem RelL.mono{ρ ρ':Rho}(h:ρ.le ρ'):∀(l:List AV)(vs:List Value),RelL ρ l vs->RelL ρ' l vs
 |[],_,hv=>hv
 |a::xs,_,⟨v,vs',h1,h2,h3⟩=>⟨v,vs',RelV.mono h a v h1,RelL.mono h xs vs' h2,h3⟩
end
theorem RelL.len{ρ:Rho}:∀{l:List AV}{vs:List Value},RelL ρ l vs->vs.length=l.length
 |[],_,h=>by rw[show _=[]from h];rfl
 |_::_,_,⟨_,_,_,h2,h3⟩=>by rw[h3,List.length_cons,h2.len,List.length_cons]
theorem RelL.get{ρ:Rho}:∀{l:List AV}{vs:List Value},RelL ρ l vs->∀{i:Nat}{a:AV},l[i]? =some a->∃v,vs[i]? =some v/\RelV ρ a v
 |[],_,_,i,a,ha=>by simp at ha
 |x::xs,_,⟨v,vs',h1,h2,h3⟩,0,a,ha=>by
  simp at ha;subst ha;subst h3
  exact⟨v,rfl,h1⟩
 |x::xs,_,⟨v,vs',h1,h2,h3⟩,i+1,a,ha=>by
  subst h3
  exact h2.get (by simpa using ha)
theorem RelL.append{ρ:Rho}:∀{l m:List AV}{vs ws:List Value},RelL ρ l vs->RelL ρ m ws->RelL ρ (l++m) (vs++ws)
 |[],_,_,_,h,h'=>by rw[show _=[]from h];exact h'
 |a::xs,_,_,_,⟨v,vs',h1,h2,h3⟩,h'=>by
  subst h3
  exact⟨v,vs'++_,h1,h2.append h',rfl⟩
theorem RelL.take{ρ:Rho}:∀{l:List AV}{vs:List Value}(k:Nat),RelL ρ l vs->RelL ρ (l.take k) (vs.take k)
 |[],_,k,h=>by rw[show _=[]from h];simp[RelL]
 |a::xs,_,0,_=>by simp[RelL]
 |a::xs,_,k+1,⟨v,vs',h1,h2,h3⟩=>by
  subst h3
  exact⟨v,vs'.take k,h1,h2.take k,rfl⟩
theorem RelL.drop{ρ:Rho}:∀{l:List AV}{vs:List Value}(k:Nat),RelL ρ l vs->RelL ρ (l.drop k) (vs.drop k)
 |[],_,k,h=>by rw[show _=[]from h];simp[RelL]
 |a::xs,_,0,h=>h
 |a::xs,_,k+1,⟨v,vs',h1,h2,h3⟩=>by
  subst h3
  exact h2.drop k
theorem RelL.set{ρ:Rho}:∀{l:List AV}{vs:List Value}(k:Nat){a:AV}{v:Value},RelL ρ l vs->RelV ρ a v->RelL ρ (l.set k a) (vs.set k v)
 |[],_,k,_,_,h,_=>by rw[show _=[]from h];simp[RelL]
 |x::xs,_,0,a,w,⟨v,vs',h1,h2,h3⟩,hv=>by
  subst h3
  exact⟨w,vs',hv,h2,rfl⟩
 |x::xs,_,k+1,a,w,⟨v,vs',h1,h2,h3⟩,hv=>by
  subst h3
  exact⟨v,vs'.set k w,h1,h2.set k hv,rfl⟩
theorem RelL.lits{ρ:Rho}:∀vs:List Value,RelL ρ (vs.map .lit) vs
 |[]=>rfl
 |v::vs=>⟨v,vs,rfl,RelL.lits vs,rfl⟩
end
end Go.Proofs.YtifehdoghfnhoaaGreatDoor.Ev
namespace Go.Proofs.YtifehdoghfnhoaaGreatDoor.Ev
noncomputable section
open Go.RowKit Go.Shelf
structure ALoop where
 st:LoopState
 pd:Option Code
 tmps:T AV
 nt:Nat
 ps:Array Tmp
 assign:Code
 body:Code
def RH(v:Value):Option (DataW Value×List MemPlace):=some (.held v,[])
inductive AO where
 |cells (cs:List AV) (t:TypeId)
 |loop (l:ALoop)
 |dfr
 |mp (kt:TypeId) (D:DataW Value) (n:Nat) (ks:List Value)
def RelT(ρ:Rho)(A:T AV)(n:Nat)(tmps:Array Value):Prop:=tmps.size=n/\∀t,RelV ρ ((A.get t).getD .dead) (tmps.getD t undef)
theorem RelT.mono{ρ ρ':Rho}{A:T AV}{n:Nat}{tmps:Array Value}(h:ρ.le ρ')(hr:RelT ρ A n tmps):RelT ρ' A n tmps:=⟨hr.1,λt=>(hr.2 t).mono h⟩
theorem RelT.set{ρ:Rho}{A:T AV}{n:Nat}{tmps:Array Value}(h:RelT ρ A n tmps){d:Nat}(hd:d<n){a:AV}{v:Value}(hv:RelV ρ a v):RelT ρ (A.set d (some a)) n (tmps.setIfInBounds d v):=by
 refine⟨by simpa using h.1,λt=>?_⟩
 rw[T.get_set]
 by_cases e:t=d
 ·subst e
  rw[if_pos rfl]
  simpa[show t<tmps.size by rw[h.1];exact hd]using hv
 ·rw[if_neg e]
  have:=h.2 t
  rw[show(tmps.setIfInBounds d v).getD t undef=tmps.getD t undef by
   simp only[Array.getD_eq_getD_getElem?,Array.getElem?_setIfInBounds_ne (Ne.symm e)]]
  exact this
def RelO(ρ:Rho)(W:World)(b κ:Nat):AO->Prop
 | .cells cs t=>∃arr:Array Value,W.heap[b]? =some (.cells arr t (0,0))/\arr.size=κ/\cs.length<=κ/\RelL ρ cs (arr.toList.take cs.length)
 | .loop l=>∃(fn:FuncId)(tmps:Array Value)(d:Nat),W.heap[b]? =some (.loop {state:=l.st,pending:=l.pd,fn,tmps,params:=l.ps,assign:=l.assign,body:=l.body,defers:=d})/\RelT ρ l.tmps l.nt tmps
 | .dfr=>W.heap[b]? =some (.deferred (some []))
 | .mp kt D n _=>W.ownsMap Tryz.prog kt RH b n D
theorem RelO.mono{ρ ρ':Rho}{W:World}{b κ:Nat}(h:ρ.le ρ'):∀{o:AO},RelO ρ W b κ o->RelO ρ' W b κ o
 | .cells _ _,⟨arr,h1,h2,h3,h4⟩=>⟨arr,h1,h2,h3,h4.mono h⟩
 | .loop _,⟨fn,tmps,d,h1,h2⟩=>⟨fn,tmps,d,h1,h2.mono h⟩
 | .dfr,h1=>h1
 | .mp _ _ _ _,h1=>h1
theorem RelO.blk{ρ:Rho}{W W':World}{b κ:Nat}(h:W'.heap[b]? =W.heap[b]?):∀{o:AO},RelO ρ W b κ o->RelO ρ W' b κ o
 | .cells _ _,⟨arr,h1,h2⟩=>⟨arr,h.trans h1,h2⟩
 | .loop _,⟨fn,tmps,d,h1,h2⟩=>⟨fn,tmps,d,h.trans h1,h2⟩
 | .dfr,h1=>h.trans h1
 | .mp _ _ _ _,⟨es,clock,h1,h2⟩=>⟨es,clock,h.trans h1,h2⟩
theorem RelO.lt{ρ:Rho}{W:World}{b κ:Nat}:∀{o:AO},RelO ρ W b κ o->b<W.heap.size
 | .cells _ _,⟨_,h1,_⟩=>(Array.getElem?_eq_some_iff.1 h1).1
 | .loop _,⟨_,_,_,h1,_⟩=>(Array.getElem?_eq_some_iff.1 h1).1
 | .dfr,h1=>(Array.getElem?_eq_some_iff.1 h1).1
 | .mp _ _ _ _,h1=>World.ownsMap.lt h1
structure RelH(N:Nat)(ρ:Rho)(H:Nat->Option AO)(W:World):Prop where
 obj:∀n o,H n=some o->∃b κ,ρ n=some (b,κ)/\N<=b/\RelO ρ W b κ o
 inj:∀n m b κ κ',H n≠none->H m≠none->ρ n=some (b,κ)->ρ m=some (b,κ')->n=m
 size:N<=W.heap.size
def InH(ρ:Rho)(H:Nat->Option AO)(b:Nat):Prop:=∃n κ,H n≠none/\ρ n=some (b,κ)
structure Keep(ρ:Rho)(H:Nat->Option AO)(W W':World):Prop where
 os:W'.os=W.os
 tape:W'.tape=W.tape
 output:W'.output=W.output
 size:W.heap.size<=W'.heap.size
 block:∀b,b<W.heap.size->¬InH ρ H b->W'.heap[b]? =W.heap[b]?
def Free(ρ:Rho)(k k':Nat):Prop:=∀n,k<=n->n<k'->ρ n=none
structure Post(N:Nat)(ρ:Rho)(H:Nat->Option AO)(W:World)(H':Nat->Option AO)(k k':Nat)(ρ':Rho)(W':World):Prop where
 le:ρ.le ρ'
 only:∀n,¬(k<=n/\n<k')->ρ' n=ρ n
 heap:RelH N ρ' H' W'
 keep:Keep ρ H W W'
 from_:∀b,InH ρ' H' b->InH ρ H b\/W.heap.size<=b
theorem Keep.of_gr{ρ:Rho}{H:Nat->Option AO}{W W':World}(h:Gr W W'):Keep ρ H W W':=⟨h.os,h.tape,h.output,h.size,λb hb _=>h.block b hb⟩
theorem RelH.gr{N:Nat}{ρ:Rho}{H:Nat->Option AO}{W W':World}(h:RelH N ρ H W)(hg:Gr W W'):RelH N ρ H W':=
 ⟨λn o ho=>by
   obtain⟨b,κ,h1,h2,h3⟩:=h.obj n o ho
   exact⟨b,κ,h1,h2,h3.blk (hg.block b h3.lt)⟩,h.inj,Nat.le_trans h.size hg.size⟩
theorem Post.same{N:Nat}{ρ:Rho}{H:Nat->Option AO}{W W':World}{k:Nat}(h:RelH N ρ H W)(hg:Gr W W'):Post N ρ H W H k k ρ W':=
 ⟨Rho.le.refl ρ,λ_ _=>rfl,h.gr hg,Keep.of_gr hg,λ_ hb=>.inl hb⟩
theorem Post.trans{N:Nat}{ρ ρ' ρ'':Rho}{H H' H'':Nat->Option AO}{W W' W'':World}{k k' k'':Nat}(h:Post N ρ H W H' k k' ρ' W')(h':Post N ρ' H' W' H'' k' k'' ρ'' W'')(hk:k<=k')(hk':k'<=k''):Post N ρ H W H'' k k'' ρ'' W'':=by
 refine⟨h.le.trans h'.le,λn hn=>(h'.only n (by omega)).trans (h.only n (by omega)),h'.heap,?_,λb hb=>?_⟩
 ·refine⟨h'.keep.os.trans h.keep.os,h'.keep.tape.trans h.keep.tape,h'.keep.output.trans h.keep.output,Nat.le_trans h.keep.size h'.keep.size,λb hb hn=>?_⟩
  refine(h'.keep.block b (Nat.lt_of_lt_of_le hb h.keep.size) (λhi=>?_)).trans (h.keep.block b hb hn)
  rcases h.from_ b hi with h1|h1
  ·exact hn h1
  ·omega
 ·rcases h'.from_ b hb with h1|h1
  ·exact h.from_ b h1
  ·exact .inr (Nat.le_trans h.keep.size h1)
def upR(ρ:Rho)(n:Nat)(x:Nat×Nat):Rho:=λm=>if m=n then some x else ρ m
theorem upR_le{ρ:Rho}{n:Nat}{x:Nat×Nat}(h:ρ n=none):ρ.le (upR ρ n x):=λm y hy=>by
 unfold upR
 by_cases e:m=n
 ·subst e;rw[h]at hy;cases hy
 ·rw[if_neg e];exact hy
def upH(H:Nat->Option AO)(n:Nat)(o:Option AO):Nat->Option AO:=λm=>if m=n then o else H m
theorem upH_same(H:Nat->Option AO)(n:Nat)(o:Option AO):upH H n o n=o:=if_pos rfl
theorem upH_ne{H:Nat->Option AO}{n m:Nat}{o:Option AO}(h:m≠n):upH H n o m=H m:=if_neg h
theorem Post.new{N:Nat}{ρ:Rho}{H:Nat->Option AO}{W W':World}{k b κ:Nat}{o:AO}(h:RelH N ρ H W)(hfree:ρ k=none)(hg:Gr W W')(hb:W.heap.size<=b)(ho:RelO (upR ρ k (b,κ)) W' b κ o):Post N ρ H W (upH H k (some o)) k (k+1) (upR ρ k (b,κ)) W':=by
 have hle:=upR_le (x:=(b,κ)) hfree
 have hHk:H k=none:=by
  cases hx:H k with
  |none=>rfl
  |some o'=>
   obtain⟨b',κ',h1,_⟩:=h.obj k o' hx
   rw[hfree]at h1;cases h1
 have hold:∀n κ',H n≠none->ρ n=some (b,κ')->False:=λn κ' hn hr=>by
  cases hx:H n with
  |none=>exact hn hx
  |some o'=>
   obtain⟨b',κ'',h1,_,h3⟩:=h.obj n o' hx
   rw[hr]at h1
   cases h1
   have:=h3.lt
   omega
 refine⟨hle,λn hn=>if_neg (by omega),⟨λn o' hn=>?_,λn m b' κ1 κ2 hn hm h1 h2=>?_,Nat.le_trans h.size hg.size⟩,Keep.of_gr hg,λb'⟨n,κ',hn,hr⟩=>?_⟩
 ·by_cases e:n=k
  ·subst e
   rw[upH_same]at hn
   cases hn
   exact⟨b,κ,if_pos rfl,Nat.le_trans h.size hb,ho⟩
  ·rw[upH_ne e]at hn
   obtain⟨b',κ',h1,h2,h3⟩:=h.obj n o' hn
   exact⟨b',κ',hle _ _ h1,h2,(h3.blk (hg.block b' h3.lt)).mono hle⟩
 ·by_cases e:n=k
  ·by_cases e2:m=k
   ·rw[e,e2]
   ·exfalso
    rw[upH_ne e2]at hm
    rw[e,show upR ρ k (b,κ) k=some (b,κ)from if_pos rfl]at h1
    cases h1
    rw[show upR ρ k (b,κ) m=ρ m from if_neg e2]at h2
    exact hold m κ2 hm h2
  ·rw[upH_ne e]at hn
   rw[show upR ρ k (b,κ) n=ρ n from if_neg e]at h1
   by_cases e2:m=k
   ·exfalso
    rw[e2,show upR ρ k (b,κ) k=some (b,κ)from if_pos rfl]at h2
    cases h2
    exact hold n κ1 hn h1
   ·rw[upH_ne e2]at hm
    rw[show upR ρ k (b,κ) m=ρ m from if_neg e2]at h2
    exact h.inj n m b' κ1 κ2 hn hm h1 h2
 ·by_cases e:n=k
  ·rw[e,show upR ρ k (b,κ) k=some (b,κ)from if_pos rfl]at hr
   cases hr
   exact .inr hb
  ·rw[upH_ne e]at hn
   rw[show upR ρ k (b,κ) n=ρ n from if_neg e]at hr
   exact .inl ⟨n,κ',hn,hr⟩
theorem Post.write{N:Nat}{ρ:Rho}{H:Nat->Option AO}{W W':World}{k n b κ:Nat}{o:AO}(h:RelH N ρ H W)(hn:H n≠none)(hr:ρ n=some (b,κ))(hg:W.grownBy W' (some b))(ho:RelO ρ W' b κ o):Post N ρ H W (upH H n (some o)) k k ρ W':=by
 refine⟨Rho.le.refl ρ,λ_ _=>rfl,⟨λm o' hm=>?_,λm m' b' κ1 κ2 hm hm' h1 h2=>?_,Nat.le_trans h.size hg.size⟩,⟨hg.os,hg.tape,hg.output,hg.size,λb' hb' hi=>hg.block b' hb' (λe=>hi ⟨n,κ,hn,by cases e;exact hr⟩)⟩,λb'⟨m,κ',hm,h1⟩=>?_⟩
 ·by_cases e:m=n
  ·subst e
   rw[upH_same]at hm
   cases hm
   cases hx:H m with
   |none=>exact absurd hx hn
   |some o''=>
    obtain⟨b'',κ'',h1,h2,_⟩:=h.obj m o'' hx
    rw[hr]at h1
    cases h1
    exact⟨b,κ,hr,h2,ho⟩
  ·rw[upH_ne e]at hm
   obtain⟨b',κ',h1,h2,h3⟩:=h.obj m o' hm
   refine⟨b',κ',h1,h2,h3.blk (hg.block b' h3.lt (λe2=>e ?_))⟩
   cases e2
   exact h.inj m n b κ' κ (by rw[hm];simp) hn h1 hr
 ·refine h.inj m m' b' κ1 κ2 (λe=>?_) (λe=>?_) h1 h2
  ·by_cases e2:m=n
   ·rw[e2]at e;exact hn e
   ·rw[upH_ne e2]at hm;exact hm e
  ·by_cases e2:m'=n
   ·rw[e2]at e;exact hn e
   ·rw[upH_ne e2]at hm';exact hm' e
 ·refine .inl ⟨m,κ',λe=>?_,h1⟩
  by_cases e2:m=n
  ·rw[e2]at e;exact hn e
  ·rw[upH_ne e2]at hm;exact hm e
theorem Post.app{N:Nat}{ρ:Rho}{H:Nat->Option AO}{W W':World}{k n b b' κ κ':Nat}{o:AO}(h:RelH N ρ H W)(hn:H n≠none)(hr:ρ n=some (b,κ))(hfree:ρ k=none)(hg:W.grownBy W' (some b))(hb:b'=b\/W.heap.size<=b')(ho:RelO (upR ρ k (b',κ')) W' b' κ' o):
 Post N ρ H W (upH (upH H n none) k (some o)) k (k+1) (upR ρ k (b',κ')) W':=by
 have hle:=upR_le (x:=(b',κ')) hfree
 have hHk:H k=none:=by
  cases hx:H k with
  |none=>rfl
  |some o'=>
   obtain⟨b',κ',h1,_⟩:=h.obj k o' hx
   rw[hfree]at h1;cases h1
 have hlive:∀m,m≠k->upH (upH H n none) k (some o) m≠none->H m≠none/\m≠n:=λm e hm=>by
  rw[upH_ne e]at hm
  by_cases e2:m=n
  ·rw[e2,upH_same]at hm;exact absurd rfl hm
  ·rw[upH_ne e2]at hm;exact⟨hm,e2⟩
 have hnb:N<=b:=by
  cases hx:H n with
  |none=>exact absurd hx hn
  |some o''=>
   obtain⟨_,_,h1,h2,_⟩:=h.obj n o'' hx
   rw[hr]at h1
   cases h1
   exact h2
 have hold:∀m κ1,m≠k->upH (upH H n none) k (some o) m≠none->ρ m=some (b',κ1)->False:=λm κ1 e hm h1=>by
  obtain⟨h2,h3⟩:=hlive m e hm
  rcases hb with rfl|hb
  ·exact h3 (h.inj m n b' κ1 κ h2 hn h1 hr)
  ·cases hx:H m with
   |none=>exact h2 hx
   |some o'=>
    obtain⟨b2,κ2,h4,_,h5⟩:=h.obj m o' hx
    rw[h1]at h4
    cases h4
    have:=h5.lt
    omega
 refine⟨hle,λm hm=>if_neg (by omega),⟨λm o' hm=>?_,λm m' b2 κ1 κ2 hm hm' h1 h2=>?_,Nat.le_trans h.size hg.size⟩,⟨hg.os,hg.tape,hg.output,hg.size,λb2 hb2 hi=>hg.block b2 hb2 (λe=>hi ⟨n,κ,hn,by cases e;exact hr⟩)⟩,λb2⟨m,κ1,hm,h1⟩=>?_⟩
 ·by_cases e:m=k
  ·subst e
   rw[upH_same]at hm
   cases hm
   refine⟨b',κ',if_pos rfl,?_,ho⟩
   rcases hb with rfl|hb
   ·exact hnb
   ·exact Nat.le_trans h.size hb
  ·obtain⟨h2,h3⟩:=hlive m e (by rw[hm];simp)
   rw[upH_ne e,upH_ne h3]at hm
   obtain⟨b2,κ2,h4,h5,h6⟩:=h.obj m o' hm
   refine⟨b2,κ2,hle _ _ h4,h5,(h6.blk (hg.block b2 h6.lt (λe2=>h3 ?_))).mono hle⟩
   cases e2
   exact h.inj m n b κ2 κ h2 hn h4 hr
 ·by_cases e:m=k
  ·by_cases e2:m'=k
   ·rw[e,e2]
   ·exfalso
    rw[e,show upR ρ k (b',κ') k=some (b',κ')from if_pos rfl]at h1
    cases h1
    rw[show upR ρ k (b',κ') m'=ρ m' from if_neg e2]at h2
    exact hold m' κ2 e2 hm' h2
  ·rw[show upR ρ k (b',κ') m=ρ m from if_neg e]at h1
   by_cases e2:m'=k
   ·exfalso
    rw[e2,show upR ρ k (b',κ') k=some (b',κ')from if_pos rfl]at h2
    cases h2
    exact hold m κ1 e hm h1
   ·rw[show upR ρ k (b',κ') m'=ρ m' from if_neg e2]at h2
    exact h.inj m m' b2 κ1 κ2 (hlive m e hm).1 (hlive m' e2 hm').1 h1 h2
 ·by_cases e:m=k
  ·rw[e,show upR ρ k (b',κ') k=some (b',κ')from if_pos rfl]at h1
   cases h1
   rcases hb with rfl|hb
   ·exact .inl ⟨n,κ,hn,hr⟩
   ·exact .inr hb
  ·rw[show upR ρ k (b',κ') m=ρ m from if_neg e]at h1
   exact .inl ⟨m,κ1,(hlive m e hm).1,h1⟩
theorem Post.kill{N:Nat}{ρ:Rho}{H:Nat->Option AO}{W W':World}{k n b κ:Nat}(h:RelH N ρ H W)(hn:H n≠none)(hr:ρ n=some (b,κ))(hg:W.grownBy W' (some b)):Post N ρ H W (upH H n none) k k ρ W':=by
 have hlive:∀m,upH H n none m≠none->H m≠none/\m≠n:=λm hm=>by
  by_cases e2:m=n
  ·rw[e2,upH_same]at hm;exact absurd rfl hm
  ·rw[upH_ne e2]at hm;exact⟨hm,e2⟩
 refine⟨Rho.le.refl ρ,λ_ _=>rfl,⟨λm o' hm=>?_,λm m' b' κ1 κ2 hm hm' h1 h2=>h.inj m m' b' κ1 κ2 (hlive m hm).1 (hlive m' hm').1 h1 h2,Nat.le_trans h.size hg.size⟩,⟨hg.os,hg.tape,hg.output,hg.size,λb' hb' hi=>hg.block b' hb' (λe=>hi ⟨n,κ,hn,by cases e;exact hr⟩)⟩,λb'⟨m,κ',hm,h1⟩=>.inl ⟨m,κ',(hlive m hm).1,h1⟩⟩
 obtain⟨h1,h2⟩:=hlive m (by rw[hm];simp)
 rw[upH_ne h2]at hm
 obtain⟨b',κ',h3,h4,h5⟩:=h.obj m o' hm
 refine⟨b',κ',h3,h4,h5.blk (hg.block b' h5.lt (λe2=>h2 ?_))⟩
 cases e2
 exact h.inj m n b κ' κ h1 hn h3 hr
end
end Go.Proofs.YtifehdoghfnhoaaGreatDoor.Ev
