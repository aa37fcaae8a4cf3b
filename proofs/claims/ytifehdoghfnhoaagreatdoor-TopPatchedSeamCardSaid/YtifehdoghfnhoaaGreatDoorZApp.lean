/- What an append of a slice's elements to a row of the call's own does, for elements of any size. -/
import Derived.Test.YtifehdoghfnhoaaGreatDoorProg
import Derived.WalkKit
import Derived.BigQuiet
import Derived.Deep.QuietTactic
import Derived.WalkSpells
import Derived.WalkLawsBesides
import Derived.Lib.Hide
import Derived.Shelf.Abstract
import Derived.Outline
import Derived.OrdersIn
import Derived.TacticsIn
import Derived.RangeFuncCalls
import Derived.Deep.OwnRows
namespace Go.Proofs.YtifehdoghfnhoaaGreatDoor
open Go.RowKit
theorem bcell{W w1:World}(hb:Below W.heap.size W w1):(∀b o,b<W.heap.size->w1.cell? ⟨b,o,none⟩=W.cell? ⟨b,o,none⟩)/\(∀b o,b<W.heap.size->w1.frozen? ⟨b,o,none⟩=W.frozen? ⟨b,o,none⟩):=
 ⟨λb o h=>hb.cell (p:=⟨b,o,none⟩) h,λb o h=>hb.frozen (p:=⟨b,o,none⟩) h⟩
structure Sl{α:Type}(k:Nat)(enc:α->List Value)(w:World)(B:Nat)(A:Option Addr)(n c:Nat)(xs:List α):Prop where
 len:xs.length=n
 cap:n<=c
 big:c<=9223372036854775807
 at_:0<n->∃b o,A=some ⟨b,o,none⟩/\b<B/\∀i x,xs[i]? =some x->∀j u,(enc x)[j]? =some u->w.cell? ⟨b,o+i*k+j,none⟩=some u
theorem Sl.below{α:Type}{k:Nat}{enc:α->List Value}{w w':World}{B:Nat}{A:Option Addr}{n c:Nat}{xs:List α}(h:Sl k enc w B A n c xs)(hb:Below B w w'):Sl k enc w' B A n c xs:=
 ⟨h.len,h.cap,h.big,λhn=>by
   obtain⟨b,o,hA,hB,hc⟩:=h.at_ hn
   exact⟨b,o,hA,hB,λi x hx j u hu=>(hb.cell (p:=⟨b,o+i*k+j,none⟩) hB).trans (hc i x hx j u hu)⟩⟩
theorem Sl.more{α:Type}{k:Nat}{enc:α->List Value}{w:World}{B B':Nat}{A:Option Addr}{n c:Nat}{xs:List α}(h:Sl k enc w B A n c xs)(hB:B<=B'):Sl k enc w B' A n c xs:=
 ⟨h.len,h.cap,h.big,λhn=>by
   obtain⟨b,o,hA,hb,hc⟩:=h.at_ hn
   exact⟨b,o,hA,by omega,hc⟩⟩
theorem Sl.later{α:Type}{k:Nat}{enc:α->List Value}{w w':World}{A:Option Addr}{n c:Nat}{xs:List α}(h:Sl k enc w w.heap.size A n c xs)(hb:Below w.heap.size w w'):Sl k enc w' w'.heap.size A n c xs:=
 (h.below hb).more hb.size
theorem Sl.nil_{α:Type}{k:Nat}{enc:α->List Value}{w:World}{B:Nat}:Sl (α:=α) k enc w B none 0 0 []:=
 ⟨rfl,by omega,by omega,λh=>absurd h (by omega)⟩
theorem Sl.lt{α:Type}{k:Nat}{enc:α->List Value}{w:World}{B:Nat}{A:Option Addr}{n c:Nat}{xs:List α}(h:Sl k enc w B A n c xs){i:Nat}(hi:i<n):∃b o x,A=some ⟨b,o,none⟩/\b<B/\xs[i]? =some x/\∀j u,(enc x)[j]? =some u->w.cell? ⟨b,o+i*k+j,none⟩=some u:=by
 obtain⟨b,o,hA,hB,hc⟩:=h.at_ (by omega)
 have hl:=h.len
 exact⟨b,o,xs[i],hA,hB,List.getElem?_eq_getElem (by omega),hc i _ (List.getElem?_eq_getElem (by omega))⟩
def encI(x:Int):List Value:=[.int .i64 x]
structure Kd where
 w:Int
 p:Int
 m:Int
 deriving DecidableEq
theorem Sl.ltI{w:World}{B:Nat}{A:Option Addr}{n c:Nat}{xs:List Int}(h:Sl 1 encI w B A n c xs){i:Nat}(hi:i<n):∃b o x,A=some ⟨b,o,none⟩/\b<B/\xs[i]? =some x/\w.cell? ⟨b,o+i,none⟩=some (.int .i64 x):=by
 obtain⟨b,o,x,hA,hB,hx,hc⟩:=h.lt hi
 exact⟨b,o,x,hA,hB,hx,by simpa using hc 0 _ rfl⟩
def encB(x:Nat):List Value:=[.int .u8 x]
theorem Sl.ltB{w:World}{B:Nat}{A:Option Addr}{n c:Nat}{xs:List Nat}(h:Sl 1 encB w B A n c xs){i:Nat}(hi:i<n):∃b o x,A=some ⟨b,o,none⟩/\b<B/\xs[i]? =some x/\w.cell? ⟨b,o+i,none⟩=some (.int .u8 x):=by
 obtain⟨b,o,x,hA,hB,hx,hc⟩:=h.lt hi
 exact⟨b,o,x,hA,hB,hx,by simpa using hc 0 _ rfl⟩
def idxB{α:Type}(p:α->Bool):List α->Nat->Int
 |[],_=>-1
 |x::l,i=>if p x then i else idxB p l (i+1)
theorem idxB_ge{α:Type}(p:α->Bool)(l:List α)(i:Nat):decide (0<=idxB p l i)=l.any p:=by
 induction l generalizing i with
 |nil=>simp[idxB]
 |cons x l ih=>
  simp only[idxB,List.any_cons]
  by_cases h:p x
  ·simp[h]
  ·simp[h,ih (i+1)]
theorem idxB_drop{α:Type}(p:α->Bool)(l:List α)(i:Nat)(h:∀j x,j<i->l[j]? =some x->p x=false):idxB p l 0=idxB p (l.drop i) i:=by
 have:∀(i a:Nat),(∀j x,j<i->l[j]? =some x->p x=false)->i<=l.length->idxB p l a=idxB p (l.drop i) (a+i):=by
  intro i
  induction i with
  |zero=>intro a _ _;simp
  |succ i ih=>
   intro a h hl
   rw[ih a (λj x hj hx=>h j x (by omega) hx) (by omega)]
   rw[List.drop_eq_getElem_cons (by omega)]
   have hp:=h i _ (by omega) (List.getElem?_eq_getElem (by omega))
   simp[idxB,hp,Nat.add_assoc]
 by_cases hi:i<=l.length
 ·simpa using this i 0 h hi
 ·have h2:=this l.length 0 (λj x hj hx=>h j x (by omega) hx) (Nat.le_refl _)
  rw[h2,List.drop_length,List.drop_eq_nil_of_le (by omega)]
  simp[idxB]
theorem idxB_at{α:Type}{p:α->Bool}{l:List α}{k:Nat}{x:α}(h:∀j y,j<k->l[j]? =some y->p y=false) (hx:l[k]? =some x) (hp:p x=true):idxB p l 0=k:=by
 rw[idxB_drop p l k h]
 obtain⟨hk,rfl⟩:=List.getElem?_eq_some_iff.1 hx
 rw[List.drop_eq_getElem_cons hk]
 simp[idxB,hp]
theorem idxB_no{α:Type}{p:α->Bool}{l:List α}(h:∀j y,j<l.length->l[j]? =some y->p y=false):idxB p l 0=-1:=by
 rw[idxB_drop p l l.length h,List.drop_length]
 rfl
theorem no_succ{α:Type}{p:α->Bool}{l:List α}{k:Nat}{x:α}(h:∀j y,j<k->l[j]? =some y->p y=false) (hx:l[k]? =some x) (hp:p x=false):∀j y,j<k+1->l[j]? =some y->p y=false:=by
 intro j y hj hy
 by_cases e:j=k
 ·subst e;rw[hx]at hy;cases hy;exact hp
 ·exact h j y (by omega) hy
theorem ret_int{k:IntKind}{a b:Int}(h:a=b):Ending.returned (.int k a)=.returned (.int k b):=by rw[h]
theorem rtB{a b:Bool}(h:a=b):Ending.returned (.bool a)=.returned (.bool b):=by rw[h]
theorem Below.later{W w1 w2:World}(h1:Below W.heap.size W w1)(h2:Below w1.heap.size w1 w2):Below W.heap.size W w2:=h1.trans (h2.mono h1.size)
theorem balloc{W w1:World}(h:Below W.heap.size W w1)(o:Obj):Below W.heap.size W (w1.alloc o):=h.alloc h.size o
theorem bdrew{W w1:World}(h:Below W.heap.size W w1)(n:Nat):Below W.heap.size W (w1.drewN n):=⟨h.os,h.tape,h.output,h.size,h.block⟩
theorem bset{W w1:World}(h:Below W.heap.size W w1){p:Addr}(hp:W.heap.size<=p.block)(u:Value):Below W.heap.size W (w1.setCell p u):=h.setCell hp u
theorem brefl(W:World):Below W.heap.size W W:=Below.refl _ _
end Go.Proofs.YtifehdoghfnhoaaGreatDoor
namespace Go.Proofs.YtifehdoghfnhoaaGreatDoor
open Go.RowKit Go.Shelf
abbrev Gr(W W':World):Prop:=Below W.heap.size W W'
inductive Spec where
 |is (v:Value)
 |like (R:Value->World->Prop)
def Spec.val:Spec->Value->Value
 | .is v,_=>v
 | .like _,e=>e
def Spec.ok:Spec->Value->World->Prop
 | .is c,v,_=>v=c
 | .like R,v,W=>R v W
def Spec.loose:Spec->Value->World->Prop
 | .is _,_,_=>True
 | .like R,v,W=>R v W
theorem Spec.val_of_ok{s:Spec}{v:Value}{W:World}(h:s.ok v W):s.val v=v:=by cases s<;>simp_all[Spec.ok,Spec.val]
def doesUpon(P:Program)(R:Value->World->Prop):Result Next->Prop
 | .ok (.value v) W'=>R v W'
 | .ok .skip W'=>R undef W'
 | .ok (.enter f args) W'=>Calls P f args W' λe W''=>∃v,e=.returned v/\R v W''
 |_=>False
def dsA(P:Program)(o:Oper)(a:Act)(W:World)(R:Value->World->Prop):Prop:=doesUpon P R ((execOp a.eval o).run P W)
@[go_sem] theorem doesUpon_value (P:Program) (R:Value->World->Prop) (v:Value) (W:World):doesUpon P R (.ok (.value v) W)=R v W:=rfl
@[go_sem] theorem doesUpon_skip (P:Program) (R:Value->World->Prop) (W:World):doesUpon P R (.ok .skip W)=R undef W:=rfl
@[go_sem] theorem doesUpon_enter (P:Program) (R:Value->World->Prop) (f:FuncId) (args:Array Value) (W:World):doesUpon P R (.ok (.enter f args) W)=Calls P f args W λe W''=>∃v,e=.returned v/\R v W'':=rfl
def lexAct(env:Nat->Value):Nat->List Oper->List Spec->Act->Act
 |i,o::os,s::ss,a=>lexAct env (i+1) os ss (a.put o.dst (s.val (env i)))
 |_,_,_,a=>a
def looseOf(specs:List Spec)(env:Nat->Value)(W:World)(e:Edge):Prop:=(specs.getD e.on (.is undef)).loose (env e.on) W
def Obls(P:Program)(ops:Array Oper)(specs:List Spec)(env:Nat->Value)(W:World):Nat->List Oper->List Spec->Act->Prop
 |i,o::os,s::ss,a=>
  ((∀e∈o.after.toList,Region.binds .any e=true->looseOf specs env W e)->
    if Region.wanted o (yielded ops a.tmps)then dsA P o a W (λv W'=>Gr W W'/\s.ok v W')else s.ok undef W)/\
  Obls P ops specs env W (i+1) os ss (a.put o.dst (s.val (env i)))
 |_,_,_,_=>True
structure FrameIs(l:List Oper)(specs:List Spec)(a:Act)(L:Nat->Prop)(env:Nat->Value)(a':Act):Prop where
 defers:a'.defers=a.defers
 size:a'.tmps.size=a.tmps.size
 old:∀t,(∀i o,L i->l[i]? =some o->o.dst≠some t)->a'.tmps[t]? =a.tmps[t]?
 new:∀i o s t,L i->l[i]? =some o->specs[i]? =some s->o.dst=some t->t<a.tmps.size->a'.tmps[t]? =some (s.val (env i))
def dagOk(l:List Oper)(ops:Array Oper):Bool:=
 (List.range ops.size).all (λi=>match ops[i]? with
   |none=>false
   |some o=>
    (match o.op with| .select .. =>false| .defer .. =>false|_=>true)&&
    o.after.all (λe=>!Region.binds .any e||decide (e.on<i))&&
    (List.range l.length).all (λj=>j==i||(match l[j]? with
      |none=>false
      |some oj=>(match oj.dst with
       |none=>true
       |some t=>!(o.dst==some t)&&(!(o.looksAt ops).contains t||(if j<i then o.after.any (λe=>Region.binds .any e&&e.on==j)else oj.after.any (λe=>Region.binds .any e&&e.on==i))))))&&
    ((i+1==ops.size&&l.length<ops.size)||l.length==ops.size||(List.range ops.size).any (λk=>match ops[k]? with|none=>false|some ok=>ok.after.any (λe=>Region.binds .any e&&e.on==i))))
section
variable{P:Program}{l:List Oper}{specs:List Spec}{a:Act}{env:Nat->Value}
theorem FrameIs.put{L:Nat->Prop}{a':Act}(h:FrameIs l specs a L env a')(hd:∀(i j:Nat)(oi oj:Oper)(t:Tmp),l[i]? =some oi->l[j]? =some oj->oi.dst=some t->oj.dst=some t->i=j)
 {i:Nat} {o:Oper} {s:Spec} {v:Value} (ho:l[i]? =some o) (hs:specs[i]? =some s) (hL:¬L i) (hv:s.val v=v):
 FrameIs l specs a (λj=>L j\/j=i) (λj=>if j=i then v else env j) (a'.put o.dst v):=by
 refine⟨?_,?_,?_,?_⟩
 ·rw[<-h.defers];cases o.dst<;>rfl
 ·rw[<-h.size];cases o.dst<;>simp[Act.put]
 ·intro t ht
  have h1:=h.old t (λj oj hj=>ht j oj (.inl hj))
  have h2:=ht i o (.inr rfl) ho
  cases hdst:o.dst with
  |none=>simpa[Act.put]using h1
  |some d=>
   have hne:d≠t:=λe=>h2 (by rw[hdst,e])
   simp only[Act.put,Array.getElem?_setIfInBounds_ne hne];exact h1
 ·intro j oj sj t hj hoj hsj hdj ht
  by_cases e:j=i
  ·subst e
   rw[ho]at hoj;cases hoj
   rw[hs]at hsj;cases hsj
   rw[hdj]
   simp only[Act.put,if_true]
   rw[Array.getElem?_setIfInBounds_self_of_lt (by rw[h.size];exact ht),hv]
  ·have hj':L j:=hj.resolve_right e
   have h1:=h.new j oj sj t hj' hoj hsj hdj ht
   simp only[e,if_false]
   cases hdst:o.dst with
   |none=>simpa[Act.put]using h1
   |some d=>
    have hne:d≠t:=λe'=>e (hd j i oj o t hoj ho hdj (by rw[hdst,e']))
    simp only[Act.put,Array.getElem?_setIfInBounds_ne hne];exact h1
theorem FrameIs.agree{L L':Nat->Prop}{a1 a2:Act}(hlen:specs.length=l.length)(h1:FrameIs l specs a L env a1)(h2:FrameIs l specs a L' env a2)(t:Nat)
 (hL:∀i o,l[i]? =some o->o.dst=some t->(L i↔L' i)):a1.tmps[t]? =a2.tmps[t]? :=by
 by_cases hx:∃i o,L i/\l[i]? =some o/\o.dst=some t
 ·obtain⟨i,o,hLi,ho,hdst⟩:=hx
  obtain⟨s,hs⟩:∃s,specs[i]? =some s:=⟨_,List.getElem?_eq_getElem (by rw[hlen];exact(List.getElem?_eq_some_iff.1 ho).1)⟩
  by_cases ht:t<a.tmps.size
  ·rw[h1.new i o s t hLi ho hs hdst ht,h2.new i o s t ((hL i o ho hdst).1 hLi) ho hs hdst ht]
  ·rw[Array.getElem?_eq_none (by rw[h1.size];omega),Array.getElem?_eq_none (by rw[h2.size];omega)]
 ·rw[h1.old t (λi o hLi ho hdst=>hx ⟨i,o,hLi,ho,hdst⟩),h2.old t (λi o hLi ho hdst=>hx ⟨i,o,(hL i o ho hdst).2 hLi,ho,hdst⟩)]
theorem FrameIs.eq{L L':Nat->Prop}{a1 a2:Act}(hlen:specs.length=l.length)(h1:FrameIs l specs a L env a1)(h2:FrameIs l specs a L' env a2)(hL:∀i,i<l.length->(L i↔L' i)):a1=a2:=by
 have ht:a1.tmps=a2.tmps:=by
  apply Array.ext_getElem?
  intro t
  exact FrameIs.agree hlen h1 h2 t (λi o ho _=>hL i (List.getElem?_eq_some_iff.1 ho).1)
 have hd:a1.defers=a2.defers:=h1.defers.trans h2.defers.symm
 cases a1;cases a2;simp_all
theorem lex_frame(hd:∀(i j:Nat)(oi oj:Oper)(t:Tmp),l[i]? =some oi->l[j]? =some oj->oi.dst=some t->oj.dst=some t->i=j) (_:specs.length=l.length):
 ∀(k:Nat)(ol:List Oper)(sl:List Spec)(b:Act),ol.length=sl.length->(∀j,j<ol.length->ol[j]? =l[k+j]?)->(∀j,j<sl.length->sl[j]? =specs[k+j]?)->k+ol.length<=l.length->FrameIs l specs a (· <k) env b->
  FrameIs l specs a (· <k+ol.length) env (lexAct env k ol sl b):=by
 intro k ol
 induction ol generalizing k with
 |nil=>intro sl b _ _ _ _ h;cases sl<;>simpa[lexAct]using h
 |cons o os ih=>
  intro sl b hle ho hs hk h
  cases sl with
  |nil=>simp at hle
  |cons s ss=>
   have h0:l[k]? =some o:=by simpa using(ho 0 (by simp)).symm
   have hs0:specs[k]? =some s:=by simpa using(hs 0 (by simp)).symm
   simp only[lexAct]
   have h1:FrameIs l specs a (· <k+1) env (b.put o.dst (s.val (env k))):=by
    have hv:s.val (s.val (env k))=s.val (env k):=by cases s<;>rfl
    have h2:=h.put hd (i:=k) (v:=s.val (env k)) h0 hs0 (by omega) hv
    refine⟨h2.defers,h2.size,λt ht=>h2.old t (λi oi hi=>ht i oi (by omega)),λi oi si t hi hoi hsi hdst htt=>?_⟩
    have h3:=h2.new i oi si t (by omega) hoi hsi hdst htt
    rw[h3]
    by_cases e:i=k
    ·subst e;rw[hs0]at hsi;cases hsi;simp[hv]
    ·simp[e]
   have:=ih (k+1) ss _ (by simpa using hle) (λj hj=>by have:=ho (j+1) (by simpa using hj);simpa[Nat.add_assoc,Nat.add_comm 1 j]using this) (λj hj=>by have:=hs (j+1) (by simpa using hj);simpa[Nat.add_assoc,Nat.add_comm 1 j]using this) (by simp at hk;omega) h1
   rw[show k+(o::os).length=k+1+os.length from by simp;omega]
   exact this
theorem obls_at{ops:Array Oper}{W:World}:∀(k:Nat)(ol:List Oper)(sl:List Spec)(b:Act),Obls P ops specs env W k ol sl b->∀i o s,ol[i]? =some o->sl[i]? =some s->
 (∀e∈o.after.toList,Region.binds .any e=true->looseOf specs env W e)->
   if Region.wanted o (yielded ops (lexAct env k (ol.take i) (sl.take i) b).tmps)then dsA P o (lexAct env k (ol.take i) (sl.take i) b) W (λv W'=>Gr W W'/\s.ok v W')else s.ok undef W:=by
 intro k ol
 induction ol generalizing k with
 |nil=>intro sl b _ i o s h;simp at h
 |cons o' os ih=>
  intro sl b hO i o s ho hs hloose
  cases sl with
  |nil=>simp at hs
  |cons s' ss=>
   simp only[Obls]at hO
   cases i with
   |zero=>
    simp at ho hs;subst ho;subst hs
    simpa[lexAct]using hO.1 hloose
   |succ i=>
    simp only[List.take_succ_cons,lexAct]
    exact ih (k+1) ss _ hO.2 i o s (by simpa using ho) (by simpa using hs) hloose
end
structure Lets(F:Fence)(n:Nat)(P:Program):Prop where
 fn:∀f,F.fn f
 deep:F.depth.isSome=true->1<=n
 calls:∀(f:FuncId)(args:Array Value)(w:World)(R:Ending->World->Prop),Calls P f args w R->CallsIn F (n-1) P f args w R
theorem lets_wide(n:Nat)(P:Program):Lets Fence.wide n P:=⟨λ_=>trivial,λh=>by simp[Fence.wide]at h,λ_ _ _ _ h=>callsIn_wide.2 h⟩
theorem lets_round(l n:Nat)(P:Program):Lets (Fence.wide.inRound l) n P:=⟨λ_=>trivial,λh=>by simp[Fence.wide]at h,λ_ _ _ _ h=>CallsIn.inRound l (callsIn_wide.2 h)⟩
theorem wpIn_of_does{F:Fence}{n:Nat}{P:Program}{o:Oper}{a:Act}{W:World}{R:Value->World->Prop}{K:Act->World->Prop}{Q:Exit->Act->World->Prop}
 (hF:Lets F n P)(hnd:∀c,o.op≠.defer c)(h:dsA P o a W R)(hK:∀v W',R v W'->K (a.put o.dst v) W'):o.wpIn F n P a W K Q:=by
 refine⟨λf _=>hF.fn f,?_⟩
 rw[Oper.semAt_eq _ _ _ hnd]
 unfold dsA at h
 generalize (execOp a.eval o).run P W=r at h
 cases r with
 |ok x W'=>
  cases x<;>simp only[doesUpon]at h
  case value v=>exact hK _ _ h
  case skip=>exact hK _ _ h
  case enter f args=>
   refine⟨hF.deep,hF.calls _ _ _ _ (h.mono λe W'' he=>?_)⟩
   obtain⟨v,rfl,hv⟩:=he
   exact hK _ _ hv
 |halt x W'=>simp only[doesUpon]at h
def unl(m:Nat)(listed:Array Bool):Nat:=(List.range m).countP (λi=>listed.getD i true==false)
theorem unl_pos{m:Nat}{listed:Array Bool}{i:Nat}(hi:i<m)(h:listed.getD i true=false):0<unl m listed:=by
 unfold unl
 rw[List.countP_pos_iff]
 exact⟨i,List.mem_range.2 hi,by simp[h]⟩
theorem unl_set{m:Nat}{listed:Array Bool}{i:Nat}(hi:i<m)(h:listed.getD i true=false):unl m (listed.setIfInBounds i true)<unl m listed:=by
 have hsz:i<listed.size:=by
  rcases Nat.lt_or_ge i listed.size with h'|h'
  ·exact h'
  ·simp[Array.getElem?_eq_none h']at h
 have key:∀m,unl m (listed.setIfInBounds i true)+(if i<m then 1 else 0)=unl m listed:=by
  intro m
  induction m with
  |zero=>simp[unl]
  |succ m ih=>
   unfold unl at ih ⊢
   rw[List.range_succ,List.countP_append,List.countP_append]
   simp only[List.countP_cons,List.countP_nil,Nat.zero_add]
   by_cases e:m=i
   ·subst e
    have h1:(listed.setIfInBounds m true).getD m true=true:=by simp[hsz]
    rw[h1,h]
    simp at ih ⊢
    omega
   ·rw[getD_set_ne true (λh=>e h.symm)]
    by_cases h2:i<m
    ·have h3:i<m+1:=by omega
     simp only[h2,h3,if_true]at ih ⊢
     omega
    ·have h3:¬i<m+1:=by omega
     simp only[h2,h3,if_false]at ih ⊢
     omega
 have:=key m
 simp only[hi,if_true]at this
 omega
theorem dagOk_at{l:List Oper}{ops:Array Oper}(h:dagOk l ops=true){i:Nat}{o:Oper}(ho:ops[i]? =some o):
 (∀cs b,o.op≠.select cs b)/\(∀c,o.op≠.defer c)/\(∀e∈o.after,Region.binds .any e=true->e.on<i)/\
 (∀(j:Nat)(oj:Oper)(t:Tmp),j≠i->l[j]? =some oj->oj.dst=some t->o.dst≠some t/\(t∈o.looksAt ops->(j<i->∃e∈o.after,Region.binds .any e=true/\e.on=j)/\(¬j<i->∃e∈oj.after,Region.binds .any e=true/\e.on=i)))/\
 ((i+1=ops.size/\l.length<ops.size)\/l.length=ops.size\/∃(k:Nat)(ok:Oper),ops[k]? =some ok/\∃e∈ok.after,Region.binds .any e=true/\e.on=i):=by
 have hi:i<ops.size:=(Array.getElem?_eq_some_iff.1 ho).1
 have h1:=List.all_eq_true.1 h i (List.mem_range.2 hi)
 simp only[ho,Bool.and_eq_true]at h1
 obtain⟨⟨⟨h2,h3⟩,h4⟩,h5⟩:=h1
 refine⟨λcs b e=>by rw[e]at h2;simp at h2,λc e=>by rw[e]at h2;simp at h2,?_,?_,?_⟩
 ·intro e he hb
  have:=Array.all_eq_true_iff_forall_mem.1 h3 e he
  simpa[hb]using this
 ·intro j oj t hji hoj hdst
  have hjl:j<l.length:=(List.getElem?_eq_some_iff.1 hoj).1
  have h6:=List.all_eq_true.1 h4 j (List.mem_range.2 hjl)
  simp only[hoj,hdst,Bool.or_eq_true,beq_iff_eq,hji,false_or,Bool.and_eq_true,Bool.not_eq_true',beq_eq_false_iff_ne,ne_eq]at h6
  refine⟨h6.1,λht=>?_⟩
  have h7:(if j<i then o.after.any (λe=>Region.binds .any e&&e.on==j)else oj.after.any (λe=>Region.binds .any e&&e.on==i))=true:=by
   rcases h6.2 with h8|h8
   ·rw[List.contains_eq_mem]at h8;simp[ht]at h8
   ·exact h8
  constructor
  ·intro hlt
   rw[if_pos hlt]at h7
   obtain⟨e,he,hb⟩:=Array.any_eq_true'.1 h7
   simp only[Bool.and_eq_true,beq_iff_eq]at hb
   exact⟨e,he,hb.1,hb.2⟩
  ·intro hlt
   rw[if_neg hlt]at h7
   obtain⟨e,he,hb⟩:=Array.any_eq_true'.1 h7
   simp only[Bool.and_eq_true,beq_iff_eq]at hb
   exact⟨e,he,hb.1,hb.2⟩
 ·simp only[Bool.or_eq_true,Bool.and_eq_true,beq_iff_eq,decide_eq_true_eq]at h5
  rcases h5 with(h5|h5)|h5
  ·exact .inl h5
  ·exact .inr (.inl h5)
  ·refine .inr (.inr ?_)
   obtain⟨k,hk,h6⟩:=List.any_eq_true.1 h5
   cases hok:ops[k]? with
   |none=>rw[hok]at h6;simp at h6
   |some ok=>
    rw[hok]at h6
    obtain⟨e,he,hb⟩:=Array.any_eq_true'.1 h6
    simp only[Bool.and_eq_true,beq_iff_eq]at hb
    exact⟨k,ok,hok,e,he,hb.1,hb.2⟩
section
variable{F:Fence}{n:Nat}{P:Program}{ops:Array Oper}{l r:List Oper}{specs:List Spec}{a:Act}{w0:World}{Q:Exit->Act->World->Prop}
theorem dag_distinct(hops:ops=(l++r).toArray)(hB:dagOk l ops=true):∀(i j:Nat)(oi oj:Oper)(t:Tmp),l[i]? =some oi->l[j]? =some oj->oi.dst=some t->oj.dst=some t->i=j:=by
 intro i j oi oj t hi hj hdi hdj
 by_cases e:j=i
 ·exact e.symm
 ·have hl:i<l.length:=(List.getElem?_eq_some_iff.1 hi).1
  have ho:ops[i]? =some oi:=by rw[hops];simp[List.getElem?_append_left hl,hi]
  exact absurd hdi ((dagOk_at hB ho).2.2.2.1 j oj t e hj hdj).1
theorem ready_nil_of{listed:Array Bool}(h:∀i,i<ops.size->listed.getD i true=true):Region.ready .any ops listed=[]:=by
 rw[List.eq_nil_iff_forall_not_mem]
 intro j hj
 obtain⟨h0,o,ho,_⟩:=mem_ready.1 hj
 rw[h j (Array.getElem?_eq_some_iff.1 ho).1]at h0
 cases h0
theorem all_of_ready_nil(hB:dagOk l ops=true){listed:Array Bool}(hsz:listed.size=ops.size)(hr:Region.ready .any ops listed=[]):∀i,i<ops.size->listed.getD i true=true:=by
 intro i
 induction i using Nat.strongRecOn with
 |ind i ih=>
  intro hi
  cases hx:listed.getD i true with
  |true=>rfl
  |false=>
   have ho:ops[i]? =some ops[i]:=Array.getElem?_eq_getElem hi
   have hm:i∈Region.ready .any ops listed:=mem_ready.2 ⟨hx,_,ho,λe he hbb=>by
    have h1:=(dagOk_at hB ho).2.2.1 e he hbb
    have h2:=ih e.on h1 (by omega)
    have h3:e.on<listed.size:=by omega
    simpa[h3]using h2⟩
   rw[hr]at hm;cases hm
theorem wpAnyIn_dag(hF:Lets F n P)(hops:ops=(l++r).toArray)(hr:r.length<=1)(hB:dagOk l ops=true)(hlen:specs.length=l.length)
 (hst:∀s∈specs,∀v W W',Gr W W'->s.ok v W->s.ok v W')
 (hobl:∀env W,Gr w0 W->Obls P ops specs env W 0 l specs a)
 (hend:∀env W,Gr w0 W->(∀(i:Nat)s,specs[i]? =some s->s.ok (s.val (env i)) W)->
   if r=[]then Q .normal (lexAct env 0 l specs a) W else wpOpIn F n P ops Q l.length (λa W=>Q .normal a W) (lexAct env 0 l specs a) W):
 ∀(fuel:Nat)(listed:Array Bool)(a':Act)(W:World)(env:Nat->Value),listed.size=ops.size->unl ops.size listed<=fuel->(r≠[]->listed.getD l.length true=false)->Gr w0 W->
  FrameIs l specs a (λi=>listed.getD i false=true) env a'->(∀(i:Nat)s,listed.getD i false=true->specs[i]? =some s->s.ok (s.val (env i)) W)->
  (∀(i:Nat)o,listed.getD i false=true->ops[i]? =some o->∀e∈o.after,Region.binds .any e=true->listed.getD e.on false=true)->
  wpAnyIn F n P .any ops Q fuel listed a' W:=by
 have hd:=dag_distinct hops hB
 have hosz:ops.size=l.length+r.length:=by rw[hops];simp
 have hol:∀(i:Nat)(o:Oper),i<l.length->ops[i]? =some o->l[i]? =some o:=by
  intro i o hi ho;rw[hops]at ho;simpa[List.getElem?_append_left hi]using ho
 have hlo:∀(i:Nat)(o:Oper),l[i]? =some o->ops[i]? =some o:=by
  intro i o hi
  have hl:i<l.length:=(List.getElem?_eq_some_iff.1 hi).1
  rw[hops];simp[List.getElem?_append_left hl,hi]
 have hlex:∀(env:Nat->Value)(i:Nat),i<=l.length->FrameIs l specs a (· <i) env (lexAct env 0 (l.take i) (specs.take i) a):=by
  intro env i hi
  have h0:FrameIs l specs a (· <0) env a:=⟨rfl,rfl,λ_ _=>rfl,λi _ _ _ hi=>absurd hi (by omega)⟩
  have hti:(l.take i).length=i:=by simp;omega
  have htl:(specs.take i).length=i:=by simp;omega
  have:=lex_frame (env:=env) (specs:=specs) (a:=a) hd hlen 0 (l.take i) (specs.take i) a (by omega)
   (λj hj=>by rw[List.getElem?_take,if_pos (by omega)];simp) (λj hj=>by rw[List.getElem?_take,if_pos (by omega)];simp) (by omega) h0
  simpa[hti]using this
 have hfull:∀(env:Nat->Value)(listed:Array Bool)(a':Act),FrameIs l specs a (λi=>listed.getD i false=true) env a'->(∀i,i<l.length->listed.getD i false=true)->a'=lexAct env 0 l specs a:=by
  intro env listed a' hf hall
  have h2:=hlex env l.length (Nat.le_refl _)
  rw[List.take_of_length_le (by omega),List.take_of_length_le (by omega)]at h2
  exact hf.eq hlen h2 (λi hi=>⟨λ_=>hi,λ_=>hall i hi⟩)
 have htf:∀(listed:Array Bool)(i:Nat),listed.size=ops.size->i<ops.size->(listed.getD i true=true↔listed.getD i false=true):=by
  intro listed i h1 h2
  have h3:i<listed.size:=by omega
  simp[h3]
 have hdone:∀(env:Nat->Value)(listed:Array Bool)(a':Act)(W:World),listed.size=ops.size->(r≠[]->listed.getD l.length true=false)->Gr w0 W->
  FrameIs l specs a (λi=>listed.getD i false=true) env a'->(∀(i:Nat)s,listed.getD i false=true->specs[i]? =some s->s.ok (s.val (env i)) W)->
  (∀i,i<ops.size->listed.getD i true=true)->Q .normal a' W:=by
  intro env listed a' W hsz hlast hG hf hok hall
  have hre:r=[]:=by
   by_cases e:r=[]
   ·exact e
   ·have h1:=hlast e
    have h2:0<r.length:=List.length_pos_iff.2 e
    rw[hall l.length (by omega)]at h1;cases h1
  have hall':∀i,i<l.length->listed.getD i false=true:=λi hi=>(htf listed i hsz (by omega)).1 (hall i (by omega))
  rw[hfull env listed a' hf hall']
  have h3:=hend env W hG (λi s hs=>hok i s (hall' i (by have:=(List.getElem?_eq_some_iff.1 hs).1;omega)) hs)
  rwa[if_pos hre]at h3
 intro fuel
 induction fuel with
 |zero=>
  intro listed a' W env hsz hun hlast hG hf hok hcl
  have hall:∀i,i<ops.size->listed.getD i true=true:=by
   intro i hi
   cases hx:listed.getD i true with
   |true=>rfl
   |false=>have:=unl_pos hi hx;omega
  exact⟨ready_nil_of hall,hdone env listed a' W hsz hlast hG hf hok hall⟩
 |succ fuel ih=>
  intro listed a' W env hsz hun hlast hG hf hok hcl
  refine⟨λhnil=>hdone env listed a' W hsz hlast hG hf hok (all_of_ready_nil hB hsz hnil),λi hi=>?_⟩
  obtain⟨hiu,o,ho,hdeps⟩:=mem_ready.1 hi
  have hio:i<ops.size:=(Array.getElem?_eq_some_iff.1 ho).1
  obtain⟨hsel,hdef,hback,hcf,hsink⟩:=dagOk_at hB ho
  have hil:i<listed.size:=by omega
  have hiF:listed.getD i false=false:=by
   cases hx:listed.getD i false with
   |false=>rfl
   |true=>rw[(htf listed i hsz hio).2 hx]at hiu;cases hiu
  have hset:∀j,(listed.setIfInBounds i true).getD j false=true↔(listed.getD j false=true\/j=i):=by
   intro j
   by_cases e:i=j
   ·subst e;simp[hil]
   ·rw[getD_set_ne false e];constructor
    ·exactλh=>.inl h
    ·exactλh=>h.resolve_right (λh'=>e h'.symm)
  have hclose:∀(j:Nat)oj,(listed.setIfInBounds i true).getD j false=true->ops[j]? =some oj->∀e∈oj.after,Region.binds .any e=true->(listed.setIfInBounds i true).getD e.on false=true:=by
   intro j oj hj hoj e he hb
   rw[hset]at hj ⊢
   rcases hj with hj|rfl
   ·exact .inl (hcl j oj hj hoj e he hb)
   ·rw[ho]at hoj;cases hoj;exact .inl (hdeps e he hb)
  by_cases hil2:i<l.length
  ·
   have hlo':=hol i o hil2 ho
   obtain⟨s,hs⟩:∃s,specs[i]? =some s:=⟨_,List.getElem?_eq_getElem (by omega)⟩
   have hloose:∀e∈o.after.toList,Region.binds .any e=true->looseOf specs env W e:=by
    intro e he hb
    have h1:=hdeps e (by simpa using he) hb
    have h2:=hback e (by simpa using he) hb
    obtain⟨s',hs'⟩:∃s',specs[e.on]? =some s':=⟨_,List.getElem?_eq_getElem (by omega)⟩
    have h3:=hok e.on s' h1 hs'
    unfold looseOf
    simp only[List.getD,hs',Option.getD_some]
    cases s' with
    |is c=>trivial
    |like R=>exact h3
   have hO:=obls_at 0 l specs a (hobl env W hG) i o s hlo' hs hloose
   have hfl:=hlex env i (by omega)
   have hag:∀t,t∈o.looksAt ops->a'.tmps[t]? =(lexAct env 0 (l.take i) (specs.take i) a).tmps[t]? :=by
    intro t ht
    refine hf.agree hlen hfl t (λj oj hoj hdst=>?_)
    by_cases e:j=i
    ·subst e;simp[hiF]
    ·obtain⟨_,h2⟩:=hcf j oj t e hoj hdst
     obtain⟨h3,h4⟩:=h2 ht
     constructor
     ·intro hj
      by_cases hlt:j<i
      ·exact hlt
      ·obtain⟨e',he',hb',hon⟩:=h4 hlt
       have:=hcl j oj hj (hlo j oj hoj) e' he' hb'
       rw[hon,hiF]at this;cases this
     ·intro hlt
      obtain⟨e',he',hb',hon⟩:=h3 hlt
      have:=hdeps e' he' hb'
      rwa[hon]at this
   have hev:∀x∈o.op.operands,a'.eval x=(lexAct env 0 (l.take i) (specs.take i) a).eval x:=by
    intro x hx
    cases x with
    |tmp t=>
     have:=hag t (List.mem_append_left _ (List.mem_filterMap.2 ⟨.tmp t,by simpa using hx,rfl⟩))
     simp[Act.eval,this]
    |_=>rfl
   have hex:execOp a'.eval o=execOp (lexAct env 0 (l.take i) (specs.take i) a).eval o:=execOp_congr o hsel hev
   have hwant:Region.wanted o (yielded ops a'.tmps)=Region.wanted o (yielded ops (lexAct env 0 (l.take i) (specs.take i) a).tmps):=by
    unfold Region.wanted
    cases hg:o.guard with
    |none=>rfl
    |some gw=>
     obtain⟨g,want⟩:=gw
     have hy:yielded ops a'.tmps g=yielded ops (lexAct env 0 (l.take i) (specs.take i) a).tmps g:=by
      unfold yielded
      cases ht:(ops[g]?).bind (·.dst)with
      |none=>rfl
      |some t=>
       have:=hag t (List.mem_append_right _ (by simp[hg,ht]))
       simp[this]
     simp only[hy]
   have hnext:∀v W',Gr W W'->s.ok v W'->wpAnyIn F n P .any ops Q fuel (listed.setIfInBounds i true) (a'.put o.dst v) W':=by
    intro v W' hg hv
    have hL:¬(listed.getD i false=true):=by simp[hiF]
    have hf2:=hf.put hd hlo' hs hL (Spec.val_of_ok hv)
    refine ih _ _ _ (λj=>if j=i then v else env j) (by simpa using hsz) ?_ ?_ (Below.later hG hg) ?_ ?_ hclose
    ·have:=unl_set hio hiu;omega
    ·intro hre
     have h1:=hlast hre
     rw[getD_set_ne true (by omega)];exact h1
    ·refine⟨hf2.defers,hf2.size,λt ht=>hf2.old t (λj oj hj=>ht j oj ((hset j).2 hj)),λj oj sj t hj=>hf2.new j oj sj t ((hset j).1 hj)⟩
    ·intro j sj hj hsj
     by_cases e:j=i
     ·subst e
      rw[hs]at hsj;cases hsj
      simp only[if_true]
      rw[Spec.val_of_ok hv];exact hv
     ·simp only[e,if_false]
      have hj':=((hset j).1 hj).resolve_right e
      exact hst sj (List.mem_of_getElem? hsj) _ _ _ hg (hok j sj hj' hsj)
   unfold wpOpIn
   simp only[ho]
   rw[<-hwant]at hO
   split
   ·rename_i hw
    rw[if_pos hw]at hO
    refine wpIn_of_does (R:=λv W'=>Gr W W'/\s.ok v W') hF hdef ?_ (λv W' hv=>hnext v W' hv.1 hv.2)
    unfold dsA at hO ⊢
    rwa[hex]
   ·rename_i hw
    rw[if_neg hw]at hO
    exact⟨λf _=>hF.fn f,hnext undef W (brefl W) hO⟩
  ·
   have hre:r≠[]:=by intro e;rw[e]at hosz;simp at hosz;omega
   have hil3:i=l.length:=by omega
   have hall:∀j,j<l.length->listed.getD j false=true:=by
    have key:∀(d j:Nat),j<l.length->l.length-j<=d->listed.getD j false=true:=by
     intro d
     induction d with
     |zero=>intro j hj hd;omega
     |succ d ihd=>
      intro j hj hdd
      have hoj:ops[j]? =some ops[j]:=Array.getElem?_eq_getElem (by omega)
      obtain⟨_,_,_,_,hsink⟩:=dagOk_at hB hoj
      rcases hsink with⟨h1,_⟩|h1|⟨k,ok,hok',e,he,hb,hon⟩
      ·omega
      ·have:0<r.length:=List.length_pos_iff.2 hre
       omega
      ·have hkb:=(dagOk_at hB hok').2.2.1 e he hb
       by_cases hk:k=i
       ·subst hk
        rw[ho]at hok';cases hok'
        have:=hdeps e he hb
        rwa[hon]at this
       ·have hkl:k<ops.size:=(Array.getElem?_eq_some_iff.1 hok').1
        have:=hcl k ok (ihd k (by omega) (by omega)) hok' e he hb
        rwa[hon]at this
    exactλj hj=>key _ j hj (Nat.le_refl _)
   rw[hfull env listed a' hf hall]
   have h3:=hend env W hG (λj s hs=>hok j s (hall j (by have:=(List.getElem?_eq_some_iff.1 hs).1;omega)) hs)
   rw[if_neg hre,<-hil3]at h3
   refine wpOpIn_mono (λa2 W2 hq=>?_) h3
   have hall2:∀j,j<ops.size->(listed.setIfInBounds i true).getD j true=true:=by
    intro j hj
    by_cases e:i=j
    ·subst e;simp[hil]
    ·rw[getD_set_ne true e];exact(htf listed j hsz hj).2 (hall j (by omega))
   have hrn:=ready_nil_of hall2
   cases fuel with
   |zero=>exact⟨hrn,hq⟩
   |succ f=>exact⟨λ_=>hq,by rw[hrn];simp⟩
theorem repl_no(m i:Nat):((Array.replicate m false).getD i false=true)->False:=by
 simp only[Array.getD_eq_getD_getElem?,Array.getElem?_replicate]
 split<;>simp
theorem wpIn_region_dag{id:Nat}(hF:Lets F n P)(hm:P.follows .mixedOrders=true)(l r:List Oper)(hops:ops=(l++r).toArray)(hr:r.length<=1)(hB:dagOk l ops=true){a:Act}{w:World}(specs:List Spec)(hlen:specs.length=l.length)
 (hst:∀s∈specs,∀v W W',Gr W W'->s.ok v W->s.ok v W')
 (hobl:∀env W,Gr w W->Obls P ops specs env W 0 l specs a)
 (hend:∀env W,Gr w W->(∀(i:Nat)s,specs[i]? =some s->s.ok (s.val (env i)) W)->
   if r=[]then Q .normal (lexAct env 0 l specs a) W else wpOpIn F n P ops Q l.length (λa W=>Q .normal a W) (lexAct env 0 l specs a) W):
 (Code.region id ops true).wpIn F n P Q a w:=by
 have hG0:Gr w {w with drawn:=w.drawn+1}:=(brefl w).drew
 refine wpIn_region_any hm (wpAnyIn_dag (w0:=w) hF hops hr hB hlen hst hobl hend ops.size _ a _ (λ_=>undef) (by simp) ?_ ?_ hG0 ?_ ?_ ?_)
 ·unfold unl
  exact Nat.le_trans (List.countP_le_length) (by simp)
 ·intro hre
  have:0<r.length:=List.length_pos_iff.2 hre
  have hsz:ops.size=l.length+r.length:=by rw[hops];simp
  have h2:l.length<ops.size:=by omega
  simp[h2]
 ·refine⟨rfl,rfl,λ_ _=>rfl,λi o s t hi=>(repl_no _ _ hi).elim⟩
 ·intro i s hi;exact(repl_no _ _ hi).elim
 ·intro i o hi;exact(repl_no _ _ hi).elim
end
def OblsK(P:Program)(ops:Array Oper)(specs:List Spec)(env:Nat->Value)(W:World)(E:List Oper->Act->Prop):Nat->List Oper->List Spec->Act->Prop
 |i,o::os,s::ss,a=>
  ((∀e∈o.after.toList,Region.binds .any e=true->looseOf specs env W e)->
    if Region.wanted o (yielded ops a.tmps)then dsA P o a W (λv W'=>Gr W W'/\s.ok v W')else s.ok undef W)/\
  OblsK P ops specs env W E (i+1) os ss (a.put o.dst (s.val (env i)))
 |_,os,_,a=>E os a
theorem obls_of_K{P:Program}{ops:Array Oper}{specs:List Spec}{env:Nat->Value}{W:World}{E:List Oper->Act->Prop}:∀(k:Nat)(ol:List Oper)(sl:List Spec)(b:Act),sl.length<=ol.length->OblsK P ops specs env W E k ol sl b->
 Obls P ops specs env W k (ol.take sl.length) sl b/\E (ol.drop sl.length) (lexAct env k (ol.take sl.length) sl b):=by
 intro k ol
 induction ol generalizing k with
 |nil=>intro sl b hl h;cases sl with
  |nil=>exact⟨trivial,h⟩
  |cons=>simp at hl
 |cons o os ih=>
  intro sl b hl h
  cases sl with
  |nil=>exact⟨trivial,h⟩
  |cons s ss=>
   obtain⟨h1,h2⟩:=ih (k+1) ss _ (by simpa using hl) h.2
   exact⟨⟨h.1,h1⟩,h2⟩
def dagEnd(P:Program)(Q:Exit->Act->World->Prop)(specs:List Spec)(env:Nat->Value)(W:World)(os:List Oper)(a:Act):Prop:=
 (∀(i:Nat)s,specs[i]? =some s->s.ok (s.val (env i)) W)->match os with
   |[]=>Q .normal a W
   |[o]=>dsA P o a W (λv W'=>Q .normal (a.put o.dst v) W')
   |_=>False
section
variable{P:Program}{ops:Array Oper}{specs:List Spec}{env:Nat->Value}{W:World}{E:List Oper->Act->Prop}{i:Nat}{o:Oper}{os:List Oper}{ss:List Spec}{a:Act}{Q:Exit->Act->World->Prop}
theorem obI{v:Value}(h:if Region.wanted o (yielded ops a.tmps)then dsA P o a W (λu W'=>Gr W W'/\u=v)else undef=v)
 (hn:∀K:Act->Prop,(∀b,OblsK P ops specs env W E (i+1) os ss b->K b)->K (a.put o.dst v)):OblsK P ops specs env W E i (o::os) (.is v::ss) a:=
 ⟨λ_=>h,hn _ λ_ h=>h⟩
theorem obls_isL{v:Value}(h:(∀e∈o.after.toList,Region.binds .any e=true->looseOf specs env W e)->if Region.wanted o (yielded ops a.tmps)then dsA P o a W (λu W'=>Gr W W'/\u=v)else undef=v)
 (hn:∀K:Act->Prop,(∀b,OblsK P ops specs env W E (i+1) os ss b->K b)->K (a.put o.dst v)):OblsK P ops specs env W E i (o::os) (.is v::ss) a:=
 ⟨h,hn _ λ_ h=>h⟩
theorem obls_like{R:Value->World->Prop}(h:(∀e∈o.after.toList,Region.binds .any e=true->looseOf specs env W e)->if Region.wanted o (yielded ops a.tmps)then dsA P o a W (λu W'=>Gr W W'/\R u W')else R undef W)
 (hn:∀K:Act->Prop,(∀b,OblsK P ops specs env W E (i+1) os ss b->K b)->K (a.put o.dst (env i))):OblsK P ops specs env W E i (o::os) (.like R::ss) a:=
 ⟨h,hn _ λ_ h=>h⟩
theorem obN(h:(∀(i:Nat)s,specs[i]? =some s->s.ok (s.val (env i)) W)->Q .normal a W):OblsK P ops specs env W (dagEnd P Q specs env W) i [] [] a:=h
theorem obls_last(h:(∀(i:Nat)s,specs[i]? =some s->s.ok (s.val (env i)) W)->dsA P o a W (λv W'=>Q .normal (a.put o.dst v) W')):OblsK P ops specs env W (dagEnd P Q specs env W) i [o] [] a:=h
end
def dagFit(n:Nat)(m:List Oper):Bool:=dagOk (m.take n) m.toArray&&decide (n<=m.length)&&decide (m.length<=n+1)&&(match m.drop n with|[o]=>o.guard.isNone|_=>true)
section
variable{F:Fence}{k:Nat}{P:Program}{Q:Exit->Act->World->Prop}{a:Act}{w:World}
theorem dagIn(n:Nat){id:Nat}{m:List Oper}(hF:Lets F k P)(hm:P.follows .mixedOrders=true)(hB:dagFit n m=true)(specs:List Spec)(hlen:specs.length=n)
 (hst:∀s∈specs,∀v W W',Gr W W'->s.ok v W->s.ok v W')
 (h:∀env W,Gr w W->OblsK P m.toArray specs env W (dagEnd P Q specs env W) 0 m specs a):
 (Code.region id m.toArray true).wpIn F k P Q a w:=by
 simp only[dagFit,Bool.and_eq_true,decide_eq_true_eq]at hB
 obtain⟨⟨⟨h1,h2⟩,h3⟩,h4⟩:=hB
 have hl:(m.take n).length=n:=by simp;omega
 refine wpIn_region_dag hF hm (m.take n) (m.drop n) (by simp) (by simp;omega) h1 specs (by omega) hst (λenv W hG=>?_) (λenv W hG hok=>?_)
 ·have:=(obls_of_K 0 m specs a (by omega) (h env W hG)).1
  rwa[hlen]at this
 ·have hx:=(obls_of_K 0 m specs a (by omega) (h env W hG)).2
  rw[hlen]at hx
  have hx:=hx hok
  split
  ·rename_i hnil
   rw[hnil]at hx
   exact hx
  ·rename_i hne
   cases hd:m.drop n with
   |nil=>exact absurd hd hne
   |cons o t=>
    cases t with
    |cons o' t'=>
     have h5:(m.drop n).length<=1:=by simp;omega
     rw[hd]at h5
     simp at h5
    |nil=>
     rw[hd]at hx h4
     have hg:o.guard=none:=by simpa using h4
     have ho:m.toArray[(m.take n).length]? =some o:=by
      rw[hl,List.getElem?_toArray]
      have:m[n]? =(m.drop n)[0]? :=by simp
      rw[this,hd];rfl
     unfold wpOpIn
     simp only[ho,Region.wanted,hg,if_true]
     exact wpIn_of_does hF (dagOk_at h1 ho).2.1 hx (λv W' hv=>hv)
theorem dag(n:Nat){id:Nat}{m:List Oper}(hm:P.follows .mixedOrders=true)(hB:dagFit n m=true)(specs:List Spec)(hlen:specs.length=n)
 (hst:∀s∈specs,∀v W W',Gr W W'->s.ok v W->s.ok v W')
 (h:∀env W,Gr w W->OblsK P m.toArray specs env W (dagEnd P Q specs env W) 0 m specs a):
 (Code.region id m.toArray true).wp P Q a w:=
 (wpIn_wide (n:=0)).1 (dagIn n (lets_wide 0 P) hm hB specs hlen hst h)
end
theorem stab_nil:∀s∈([]:List Spec),∀v W W',Gr W W'->s.ok v W->s.ok v W':=by simp
theorem stab_is{c:Value}{l:List Spec}(h:∀s∈l,∀v W W',Gr W W'->s.ok v W->s.ok v W'):∀s∈Spec.is c::l,∀v W W',Gr W W'->s.ok v W->s.ok v W':=by
 intro s hs
 rcases List.mem_cons.1 hs with rfl|hs
 ·exactλ_ _ _ _ h=>h
 ·exact h s hs
theorem stab_like{R:Value->World->Prop}{l:List Spec}(hR:∀v W W',Gr W W'->R v W->R v W')(h:∀s∈l,∀v W W',Gr W W'->s.ok v W->s.ok v W'):∀s∈Spec.like R::l,∀v W W',Gr W W'->s.ok v W->s.ok v W':=by
 intro s hs
 rcases List.mem_cons.1 hs with rfl|hs
 ·exact hR
 ·exact h s hs
def Fits:List (Option Value)->List Value->Prop
 |[],l=>l=[]
 |some v::ps,l=>∃l',l=v::l'/\Fits ps l'
 |none::ps,l=>∃u l',l=u::l'/\Fits ps l'
end Go.Proofs.YtifehdoghfnhoaaGreatDoor
namespace Go.Proofs.YtifehdoghfnhoaaGreatDoor
open Go.RowKit Go.Shelf
structure Ap where
 k:Nat
 P0:World->Prop
 P1:World->Prop
 A:World->World->Prop
 keep:Nat->Bool
def Ap.step(p:Ap)(i:Nat)(W W':World):Prop:=if i=p.k then p.A W W' else Gr W W'
theorem Ap.step_ne{p:Ap}{i:Nat}(h:i≠p.k):p.step i=λW W'=>Gr W W':=by funext W W';unfold Ap.step;rw[if_neg h]
theorem Ap.step_eq{p:Ap}{i:Nat}(h:i=p.k):p.step i=p.A:=by funext W W';unfold Ap.step;rw[if_pos h]
structure Ap.Good(p:Ap):Prop where
 le:∀W,p.P0 W->p.P1 W
 g0:∀W W',p.P0 W->Gr W W'->p.P0 W'
 g1:∀W W',p.P1 W->Gr W W'->p.P1 W'
 a1:∀W W',p.P0 W->p.A W W'->p.P1 W'
def OblsA(p:Ap)(P:Program)(ops:Array Oper)(specs:List Spec)(env:Nat->Value)(W:World):Nat->List Oper->List Spec->Act->Prop
 |i,o::os,s::ss,a=>
  ((∀e∈o.after.toList,Region.binds .any e=true->(i=p.k\/e.on=p.k\/p.keep e.on=true)->looseOf specs env W e)->(i=p.k->p.P0 W)->
    if Region.wanted o (yielded ops a.tmps)then dsA P o a W (λv W'=>p.step i W W'/\s.ok v W')else s.ok undef W)/\
  OblsA p P ops specs env W (i+1) os ss (a.put o.dst (s.val (env i)))
 |_,_,_,_=>True
def Before(ops:Array Oper)(k i:Nat):Prop:=∃Ls:Nat->Bool,Ls i=true/\Ls k=false/\∀(j:Nat)(oj:Oper),Ls j=true->ops[j]? =some oj->∀e∈oj.after,Region.binds .any e=true->Ls e.on=true
section
variable{p:Ap}{P:Program}{l:List Oper}{specs:List Spec}{a:Act}{env:Nat->Value}
theorem oblsA_at{ops:Array Oper}{W:World}:∀(k:Nat)(ol:List Oper)(sl:List Spec)(b:Act),OblsA p P ops specs env W k ol sl b->∀i o s,ol[i]? =some o->sl[i]? =some s->
 (∀e∈o.after.toList,Region.binds .any e=true->(k+i=p.k\/e.on=p.k\/p.keep e.on=true)->looseOf specs env W e)->(k+i=p.k->p.P0 W)->
   if Region.wanted o (yielded ops (lexAct env k (ol.take i) (sl.take i) b).tmps)then dsA P o (lexAct env k (ol.take i) (sl.take i) b) W (λv W'=>p.step (k+i) W W'/\s.ok v W')else s.ok undef W:=by
 intro k ol
 induction ol generalizing k with
 |nil=>intro sl b _ i o s h;simp at h
 |cons o' os ih=>
  intro sl b hO i o s ho hs hloose hp0
  cases sl with
  |nil=>simp at hs
  |cons s' ss=>
   simp only[OblsA]at hO
   cases i with
   |zero=>
    simp at ho hs;subst ho;subst hs
    simpa[lexAct]using hO.1 hloose hp0
   |succ i=>
    simp only[List.take_succ_cons,lexAct]
    have e:k+1+i=k+(i+1):=by omega
    have h:=ih (k+1) ss _ hO.2 i o s (by simpa using ho) (by simpa using hs) (by rw[e];exact hloose) (by rw[e];exact hp0)
    rw[e]at h
    exact h
end
section
variable{p:Ap}{F:Fence}{n:Nat}{P:Program}{ops:Array Oper}{l r:List Oper}{specs:List Spec}{a:Act}{Q:Exit->Act->World->Prop}
theorem wpAnyIn_dagA(hF:Lets F n P)(hops:ops=(l++r).toArray)(hr:r.length<=1)(hB:dagOk l ops=true)(hlen:specs.length=l.length)
 (hp:p.Good)(hst:∀s∈specs,∀v W W',Gr W W'->s.ok v W->s.ok v W')
 (hgd:∀o,ops[p.k]? =some o->o.guard=none) (hst2:∀(i:Nat)s,i≠p.k->p.keep i=true->Before ops p.k i->specs[i]? =some s->∀v W W',p.P0 W->p.A W W'->s.ok v W->s.ok v W')
 (hobl:∀env W,p.P1 W->OblsA p P ops specs env W 0 l specs a)
 (hend:∀env W,p.P1 W->(∀(i:Nat)s,specs[i]? =some s->(i=p.k\/p.keep i=true)->s.ok (s.val (env i)) W)->
   if r=[]then Q .normal (lexAct env 0 l specs a) W else wpOpIn F n P ops Q l.length (λa W=>Q .normal a W) (lexAct env 0 l specs a) W):
 ∀(fuel:Nat)(listed:Array Bool)(a':Act)(W:World)(env:Nat->Value),listed.size=ops.size->unl ops.size listed<=fuel->(r≠[]->listed.getD l.length true=false)->p.P1 W->(listed.getD p.k false=false->p.P0 W)->
  FrameIs l specs a (λi=>listed.getD i false=true) env a'->(∀(i:Nat)s,listed.getD i false=true->specs[i]? =some s->(listed.getD p.k false=true->i=p.k\/p.keep i=true)->s.ok (s.val (env i)) W)->
  (∀(i:Nat)o,listed.getD i false=true->ops[i]? =some o->∀e∈o.after,Region.binds .any e=true->listed.getD e.on false=true)->
  wpAnyIn F n P .any ops Q fuel listed a' W:=by
 have hd:=dag_distinct hops hB
 have hosz:ops.size=l.length+r.length:=by rw[hops];simp
 have hol:∀(i:Nat)(o:Oper),i<l.length->ops[i]? =some o->l[i]? =some o:=by
  intro i o hi ho;rw[hops]at ho;simpa[List.getElem?_append_left hi]using ho
 have hlo:∀(i:Nat)(o:Oper),l[i]? =some o->ops[i]? =some o:=by
  intro i o hi
  have hl:i<l.length:=(List.getElem?_eq_some_iff.1 hi).1
  rw[hops];simp[List.getElem?_append_left hl,hi]
 have hlex:∀(env:Nat->Value)(i:Nat),i<=l.length->FrameIs l specs a (· <i) env (lexAct env 0 (l.take i) (specs.take i) a):=by
  intro env i hi
  have h0:FrameIs l specs a (· <0) env a:=⟨rfl,rfl,λ_ _=>rfl,λi _ _ _ hi=>absurd hi (by omega)⟩
  have hti:(l.take i).length=i:=by simp;omega
  have htl:(specs.take i).length=i:=by simp;omega
  have:=lex_frame (env:=env) (specs:=specs) (a:=a) hd hlen 0 (l.take i) (specs.take i) a (by omega)
   (λj hj=>by rw[List.getElem?_take,if_pos (by omega)];simp) (λj hj=>by rw[List.getElem?_take,if_pos (by omega)];simp) (by omega) h0
  simpa[hti]using this
 have hfull:∀(env:Nat->Value)(listed:Array Bool)(a':Act),FrameIs l specs a (λi=>listed.getD i false=true) env a'->(∀i,i<l.length->listed.getD i false=true)->a'=lexAct env 0 l specs a:=by
  intro env listed a' hf hall
  have h2:=hlex env l.length (Nat.le_refl _)
  rw[List.take_of_length_le (by omega),List.take_of_length_le (by omega)]at h2
  exact hf.eq hlen h2 (λi hi=>⟨λ_=>hi,λ_=>hall i hi⟩)
 have htf:∀(listed:Array Bool)(i:Nat),listed.size=ops.size->i<ops.size->(listed.getD i true=true↔listed.getD i false=true):=by
  intro listed i h1 h2
  have h3:i<listed.size:=by omega
  simp[h3]
 have hdone:∀(env:Nat->Value)(listed:Array Bool)(a':Act)(W:World),listed.size=ops.size->(r≠[]->listed.getD l.length true=false)->p.P1 W->
  FrameIs l specs a (λi=>listed.getD i false=true) env a'->(∀(i:Nat)s,listed.getD i false=true->specs[i]? =some s->(listed.getD p.k false=true->i=p.k\/p.keep i=true)->s.ok (s.val (env i)) W)->
  (∀i,i<ops.size->listed.getD i true=true)->Q .normal a' W:=by
  intro env listed a' W hsz hlast hG hf hok hall
  have hre:r=[]:=by
   by_cases e:r=[]
   ·exact e
   ·have h1:=hlast e
    have h2:0<r.length:=List.length_pos_iff.2 e
    rw[hall l.length (by omega)]at h1;cases h1
  have hall':∀i,i<l.length->listed.getD i false=true:=λi hi=>(htf listed i hsz (by omega)).1 (hall i (by omega))
  rw[hfull env listed a' hf hall']
  have h3:=hend env W hG (λi s hs hkp=>hok i s (hall' i (by have:=(List.getElem?_eq_some_iff.1 hs).1;omega)) hs (λ_=>hkp))
  rwa[if_pos hre]at h3
 intro fuel
 induction fuel with
 |zero=>
  intro listed a' W env hsz hun hlast hG hG0 hf hok hcl
  have hall:∀i,i<ops.size->listed.getD i true=true:=by
   intro i hi
   cases hx:listed.getD i true with
   |true=>rfl
   |false=>have:=unl_pos hi hx;omega
  exact⟨ready_nil_of hall,hdone env listed a' W hsz hlast hG hf hok hall⟩
 |succ fuel ih=>
  intro listed a' W env hsz hun hlast hG hG0 hf hok hcl
  refine⟨λhnil=>hdone env listed a' W hsz hlast hG hf hok (all_of_ready_nil hB hsz hnil),λi hi=>?_⟩
  obtain⟨hiu,o,ho,hdeps⟩:=mem_ready.1 hi
  have hio:i<ops.size:=(Array.getElem?_eq_some_iff.1 ho).1
  obtain⟨hsel,hdef,hback,hcf,hsink⟩:=dagOk_at hB ho
  have hil:i<listed.size:=by omega
  have hiF:listed.getD i false=false:=by
   cases hx:listed.getD i false with
   |false=>rfl
   |true=>rw[(htf listed i hsz hio).2 hx]at hiu;cases hiu
  have hset:∀j,(listed.setIfInBounds i true).getD j false=true↔(listed.getD j false=true\/j=i):=by
   intro j
   by_cases e:i=j
   ·subst e;simp[hil]
   ·rw[getD_set_ne false e];constructor
    ·exactλh=>.inl h
    ·exactλh=>h.resolve_right (λh'=>e h'.symm)
  have hclose:∀(j:Nat)oj,(listed.setIfInBounds i true).getD j false=true->ops[j]? =some oj->∀e∈oj.after,Region.binds .any e=true->(listed.setIfInBounds i true).getD e.on false=true:=by
   intro j oj hj hoj e he hb
   rw[hset]at hj ⊢
   rcases hj with hj|rfl
   ·exact .inl (hcl j oj hj hoj e he hb)
   ·rw[ho]at hoj;cases hoj;exact .inl (hdeps e he hb)
  by_cases hil2:i<l.length
  ·
   have hlo':=hol i o hil2 ho
   obtain⟨s,hs⟩:∃s,specs[i]? =some s:=⟨_,List.getElem?_eq_getElem (by omega)⟩
   have hloose:∀e∈o.after.toList,Region.binds .any e=true->(i=p.k\/e.on=p.k\/p.keep e.on=true)->looseOf specs env W e:=by
    intro e he hb hkp
    have h1:=hdeps e (by simpa using he) hb
    have h2:=hback e (by simpa using he) hb
    obtain⟨s',hs'⟩:∃s',specs[e.on]? =some s':=⟨_,List.getElem?_eq_getElem (by omega)⟩
    have h3:=hok e.on s' h1 hs' (λhlk=>by
     rcases hkp with hk|hk|hk
     ·rw[<-hk,hiF]at hlk;cases hlk
     ·exact .inl hk
     ·exact .inr hk)
    unfold looseOf
    simp only[List.getD,hs',Option.getD_some]
    cases s' with
    |is c=>trivial
    |like R=>exact h3
   have hO:=oblsA_at 0 l specs a (hobl env W hG) i o s hlo' hs (by rw[Nat.zero_add];exact hloose) (λe=>hG0 (by rw[Nat.zero_add]at e;rw[<-e];exact hiF))
   rw[Nat.zero_add]at hO
   have hfl:=hlex env i (by omega)
   have hag:∀t,t∈o.looksAt ops->a'.tmps[t]? =(lexAct env 0 (l.take i) (specs.take i) a).tmps[t]? :=by
    intro t ht
    refine hf.agree hlen hfl t (λj oj hoj hdst=>?_)
    by_cases e:j=i
    ·subst e;simp[hiF]
    ·obtain⟨_,h2⟩:=hcf j oj t e hoj hdst
     obtain⟨h3,h4⟩:=h2 ht
     constructor
     ·intro hj
      by_cases hlt:j<i
      ·exact hlt
      ·obtain⟨e',he',hb',hon⟩:=h4 hlt
       have:=hcl j oj hj (hlo j oj hoj) e' he' hb'
       rw[hon,hiF]at this;cases this
     ·intro hlt
      obtain⟨e',he',hb',hon⟩:=h3 hlt
      have:=hdeps e' he' hb'
      rwa[hon]at this
   have hev:∀x∈o.op.operands,a'.eval x=(lexAct env 0 (l.take i) (specs.take i) a).eval x:=by
    intro x hx
    cases x with
    |tmp t=>
     have:=hag t (List.mem_append_left _ (List.mem_filterMap.2 ⟨.tmp t,by simpa using hx,rfl⟩))
     simp[Act.eval,this]
    |_=>rfl
   have hex:execOp a'.eval o=execOp (lexAct env 0 (l.take i) (specs.take i) a).eval o:=execOp_congr o hsel hev
   have hwant:Region.wanted o (yielded ops a'.tmps)=Region.wanted o (yielded ops (lexAct env 0 (l.take i) (specs.take i) a).tmps):=by
    unfold Region.wanted
    cases hg:o.guard with
    |none=>rfl
    |some gw=>
     obtain⟨g,want⟩:=gw
     have hy:yielded ops a'.tmps g=yielded ops (lexAct env 0 (l.take i) (specs.take i) a).tmps g:=by
      unfold yielded
      cases ht:(ops[g]?).bind (·.dst)with
      |none=>rfl
      |some t=>
       have:=hag t (List.mem_append_right _ (by simp[hg,ht]))
       simp[this]
     simp only[hy]
   have hnext:∀v W',p.step i W W'->s.ok v W'->wpAnyIn F n P .any ops Q fuel (listed.setIfInBounds i true) (a'.put o.dst v) W':=by
    intro v W' hg hv
    have hL:¬(listed.getD i false=true):=by simp[hiF]
    have hf2:=hf.put hd hlo' hs hL (Spec.val_of_ok hv)
    have hG1:p.P1 W':=by
     unfold Ap.step at hg
     by_cases e:i=p.k
     ·rw[if_pos e]at hg
      exact hp.a1 W W' (hG0 (by rw[<-e];exact hiF)) hg
     ·rw[if_neg e]at hg
      exact hp.g1 W W' hG hg
    refine ih _ _ _ (λj=>if j=i then v else env j) (by simpa using hsz) ?_ ?_ hG1 ?_ ?_ ?_ hclose
    ·have:=unl_set hio hiu;omega
    ·intro hre
     have h1:=hlast hre
     rw[getD_set_ne true (by omega)];exact h1
    ·intro hk
     by_cases e:i=p.k
     ·rw[(hset p.k).2 (.inr e.symm)]at hk;cases hk
     ·unfold Ap.step at hg
      rw[if_neg e]at hg
      refine hp.g0 W W' (hG0 ?_) hg
      cases hx:listed.getD p.k false with
      |false=>rfl
      |true=>rw[(hset p.k).2 (.inl hx)]at hk;cases hk
    ·refine⟨hf2.defers,hf2.size,λt ht=>hf2.old t (λj oj hj=>ht j oj ((hset j).2 hj)),λj oj sj t hj=>hf2.new j oj sj t ((hset j).1 hj)⟩
    ·intro j sj hj hsj hkp
     by_cases e:j=i
     ·subst e
      rw[hs]at hsj;cases hsj
      simp only[if_true]
      rw[Spec.val_of_ok hv];exact hv
     ·simp only[e,if_false]
      have hj':=((hset j).1 hj).resolve_right e
      unfold Ap.step at hg
      by_cases e2:i=p.k
      ·rw[if_pos e2]at hg
       have hkj:p.keep j=true:=by
        rcases hkp ((hset p.k).2 (.inr e2.symm))with h|h
        ·exact absurd (h.trans e2.symm) e
        ·exact h
       exact hst2 j sj (λe3=>e (e3.trans e2.symm)) hkj ⟨λx=>listed.getD x false,hj',by rw[<-e2];exact hiF,λx ox hx hox ex hex hbx=>hcl x ox hx hox ex hex hbx⟩ hsj _ _ _ (hG0 (by rw[<-e2];exact hiF)) hg (hok j sj hj' hsj (λhlk=>by rw[<-e2,hiF]at hlk;cases hlk))
      ·rw[if_neg e2]at hg
       exact hst sj (List.mem_of_getElem? hsj) _ _ _ hg (hok j sj hj' hsj (λhlk=>hkp ((hset p.k).2 (.inl hlk))))
   have hskip:¬(Region.wanted o (yielded ops a'.tmps)=true)->p.step i W W:=by
    intro hw
    unfold Ap.step
    by_cases e:i=p.k
    ·exact absurd (by simp[Region.wanted,hgd o (by rw[<-e];exact ho)]) hw
    ·rw[if_neg e];exact brefl W
   unfold wpOpIn
   simp only[ho]
   rw[<-hwant]at hO
   split
   ·rename_i hw
    rw[if_pos hw]at hO
    refine wpIn_of_does (R:=λv W'=>p.step i W W'/\s.ok v W') hF hdef ?_ (λv W' hv=>hnext v W' hv.1 hv.2)
    unfold dsA at hO ⊢
    rwa[hex]
   ·rename_i hw
    rw[if_neg hw]at hO
    exact⟨λf _=>hF.fn f,hnext undef W (hskip hw) hO⟩
  ·
   have hre:r≠[]:=by intro e;rw[e]at hosz;simp at hosz;omega
   have hil3:i=l.length:=by omega
   have hall:∀j,j<l.length->listed.getD j false=true:=by
    have key:∀(d j:Nat),j<l.length->l.length-j<=d->listed.getD j false=true:=by
     intro d
     induction d with
     |zero=>intro j hj hd;omega
     |succ d ihd=>
      intro j hj hdd
      have hoj:ops[j]? =some ops[j]:=Array.getElem?_eq_getElem (by omega)
      obtain⟨_,_,_,_,hsink⟩:=dagOk_at hB hoj
      rcases hsink with⟨h1,_⟩|h1|⟨k,ok,hok',e,he,hb,hon⟩
      ·omega
      ·have:0<r.length:=List.length_pos_iff.2 hre
       omega
      ·have hkb:=(dagOk_at hB hok').2.2.1 e he hb
       by_cases hk:k=i
       ·subst hk
        rw[ho]at hok';cases hok'
        have:=hdeps e he hb
        rwa[hon]at this
       ·have hkl:k<ops.size:=(Array.getElem?_eq_some_iff.1 hok').1
        have:=hcl k ok (ihd k (by omega) (by omega)) hok' e he hb
        rwa[hon]at this
    exactλj hj=>key _ j hj (Nat.le_refl _)
   rw[hfull env listed a' hf hall]
   have h3:=hend env W hG (λj s hs hkp=>hok j s (hall j (by have:=(List.getElem?_eq_some_iff.1 hs).1;omega)) hs (λ_=>hkp))
   rw[if_neg hre,<-hil3]at h3
   refine wpOpIn_mono (λa2 W2 hq=>?_) h3
   have hall2:∀j,j<ops.size->(listed.setIfInBounds i true).getD j true=true:=by
    intro j hj
    by_cases e:i=j
    ·subst e;simp[hil]
    ·rw[getD_set_ne true e];exact(htf listed j hsz hj).2 (hall j (by omega))
   have hrn:=ready_nil_of hall2
   cases fuel with
   |zero=>exact⟨hrn,hq⟩
   |succ f=>exact⟨λ_=>hq,by rw[hrn];simp⟩
theorem wpIn_region_dagA{id:Nat}(hF:Lets F n P)(hm:P.follows .mixedOrders=true)(l r:List Oper)(hops:ops=(l++r).toArray)(hr:r.length<=1)(hB:dagOk l ops=true){a:Act}{w:World}(specs:List Spec)(hlen:specs.length=l.length)
 (hp:p.Good)(hw0:∀W,Gr w W->p.P0 W)(hst:∀s∈specs,∀v W W',Gr W W'->s.ok v W->s.ok v W')
 (hgd:∀o,ops[p.k]? =some o->o.guard=none) (hst2:∀(i:Nat)s,i≠p.k->p.keep i=true->Before ops p.k i->specs[i]? =some s->∀v W W',p.P0 W->p.A W W'->s.ok v W->s.ok v W')
 (hobl:∀env W,p.P1 W->OblsA p P ops specs env W 0 l specs a)
 (hend:∀env W,p.P1 W->(∀(i:Nat)s,specs[i]? =some s->(i=p.k\/p.keep i=true)->s.ok (s.val (env i)) W)->
   if r=[]then Q .normal (lexAct env 0 l specs a) W else wpOpIn F n P ops Q l.length (λa W=>Q .normal a W) (lexAct env 0 l specs a) W):
 (Code.region id ops true).wpIn F n P Q a w:=by
 have hG0:Gr w {w with drawn:=w.drawn+1}:=(brefl w).drew
 refine wpIn_region_any hm (wpAnyIn_dagA hF hops hr hB hlen hp hst hgd hst2 hobl hend ops.size _ a _ (λ_=>undef) (by simp) ?_ ?_ (hp.le _ (hw0 _ hG0)) (λ_=>hw0 _ hG0) ?_ ?_ ?_)
 ·unfold unl
  exact Nat.le_trans (List.countP_le_length) (by simp)
 ·intro hre
  have:0<r.length:=List.length_pos_iff.2 hre
  have hsz:ops.size=l.length+r.length:=by rw[hops];simp
  have h2:l.length<ops.size:=by omega
  simp[h2]
 ·refine⟨rfl,rfl,λ_ _=>rfl,λi o s t hi=>(repl_no _ _ hi).elim⟩
 ·intro i s hi;exact(repl_no _ _ hi).elim
 ·intro i o hi;exact(repl_no _ _ hi).elim
end
def OblsKA(p:Ap)(P:Program)(ops:Array Oper)(specs:List Spec)(env:Nat->Value)(W:World)(E:List Oper->Act->Prop):Nat->List Oper->List Spec->Act->Prop
 |i,o::os,s::ss,a=>
  ((∀e∈o.after.toList,Region.binds .any e=true->(i=p.k\/e.on=p.k\/p.keep e.on=true)->looseOf specs env W e)->(i=p.k->p.P0 W)->
    if Region.wanted o (yielded ops a.tmps)then dsA P o a W (λv W'=>p.step i W W'/\s.ok v W')else s.ok undef W)/\
  OblsKA p P ops specs env W E (i+1) os ss (a.put o.dst (s.val (env i)))
 |_,os,_,a=>E os a
theorem obls_of_KA{p:Ap}{P:Program}{ops:Array Oper}{specs:List Spec}{env:Nat->Value}{W:World}{E:List Oper->Act->Prop}:∀(k:Nat)(ol:List Oper)(sl:List Spec)(b:Act),sl.length<=ol.length->OblsKA p P ops specs env W E k ol sl b->
 OblsA p P ops specs env W k (ol.take sl.length) sl b/\E (ol.drop sl.length) (lexAct env k (ol.take sl.length) sl b):=by
 intro k ol
 induction ol generalizing k with
 |nil=>intro sl b hl h;cases sl with
  |nil=>exact⟨trivial,h⟩
  |cons=>simp at hl
 |cons o os ih=>
  intro sl b hl h
  cases sl with
  |nil=>exact⟨trivial,h⟩
  |cons s ss=>
   obtain⟨h1,h2⟩:=ih (k+1) ss _ (by simpa using hl) h.2
   exact⟨⟨h.1,h1⟩,h2⟩
def dagEndA(p:Ap)(P:Program)(Q:Exit->Act->World->Prop)(specs:List Spec)(env:Nat->Value)(W:World)(os:List Oper)(a:Act):Prop:=
 (∀(i:Nat)s,specs[i]? =some s->(i=p.k\/p.keep i=true)->s.ok (s.val (env i)) W)->match os with
   |[]=>Q .normal a W
   |[o]=>dsA P o a W (λv W'=>Q .normal (a.put o.dst v) W')
   |_=>False
section
variable{p:Ap}{P:Program}{ops:Array Oper}{specs:List Spec}{env:Nat->Value}{W:World}{E:List Oper->Act->Prop}{i:Nat}{o:Oper}{os:List Oper}{ss:List Spec}{a:Act}{Q:Exit->Act->World->Prop}
theorem oblsA_is{v:Value}(hi:i≠p.k)(h:if Region.wanted o (yielded ops a.tmps)then dsA P o a W (λu W'=>Gr W W'/\u=v)else undef=v)
 (hn:∀K:Act->Prop,(∀b,OblsKA p P ops specs env W E (i+1) os ss b->K b)->K (a.put o.dst v)):OblsKA p P ops specs env W E i (o::os) (.is v::ss) a:=
 ⟨λ_ _=>by rw[Ap.step_ne hi];exact h,hn _ λ_ h=>h⟩
theorem oblsA_like{R:Value->World->Prop}(hi:i≠p.k)(h:(∀e∈o.after.toList,Region.binds .any e=true->(i=p.k\/e.on=p.k\/p.keep e.on=true)->looseOf specs env W e)->if Region.wanted o (yielded ops a.tmps)then dsA P o a W (λu W'=>Gr W W'/\R u W')else R undef W)
 (hn:∀K:Act->Prop,(∀b,OblsKA p P ops specs env W E (i+1) os ss b->K b)->K (a.put o.dst (env i))):OblsKA p P ops specs env W E i (o::os) (.like R::ss) a:=
 ⟨λh0 _=>by rw[Ap.step_ne hi];exact h h0,hn _ λ_ h=>h⟩
theorem oblsA_app{R:Value->World->Prop}(hi:i=p.k)(h:(∀e∈o.after.toList,Region.binds .any e=true->(i=p.k\/e.on=p.k\/p.keep e.on=true)->looseOf specs env W e)->p.P0 W->if Region.wanted o (yielded ops a.tmps)then dsA P o a W (λu W'=>p.A W W'/\R u W')else R undef W)
 (hn:∀K:Act->Prop,(∀b,OblsKA p P ops specs env W E (i+1) os ss b->K b)->K (a.put o.dst (env i))):OblsKA p P ops specs env W E i (o::os) (.like R::ss) a:=
 ⟨λh0 h1=>by rw[Ap.step_eq hi];exact h h0 (h1 hi),hn _ λ_ h=>h⟩
theorem oblsA_nil(h:(∀(i:Nat)s,specs[i]? =some s->(i=p.k\/p.keep i=true)->s.ok (s.val (env i)) W)->Q .normal a W):OblsKA p P ops specs env W (dagEndA p P Q specs env W) i [] [] a:=h
end
section
variable{p:Ap}{F:Fence}{k:Nat}{P:Program}{Q:Exit->Act->World->Prop}{a:Act}{w:World}
theorem dagAIn(n:Nat){id:Nat}{m:List Oper}(hF:Lets F k P)(hm:P.follows .mixedOrders=true)(hB:dagFit n m=true)(specs:List Spec)(hlen:specs.length=n)
 (hp:p.Good)(hw0:∀W,Gr w W->p.P0 W)(hst:∀s∈specs,∀v W W',Gr W W'->s.ok v W->s.ok v W')
 (hgd:∀o,m[p.k]? =some o->o.guard=none) (hst2:∀(i:Nat)s,i≠p.k->p.keep i=true->Before m.toArray p.k i->specs[i]? =some s->∀v W W',p.P0 W->p.A W W'->s.ok v W->s.ok v W')
 (h:∀env W,p.P1 W->OblsKA p P m.toArray specs env W (dagEndA p P Q specs env W) 0 m specs a):
 (Code.region id m.toArray true).wpIn F k P Q a w:=by
 simp only[dagFit,Bool.and_eq_true,decide_eq_true_eq]at hB
 obtain⟨⟨⟨h1,h2⟩,h3⟩,h4⟩:=hB
 have hl:(m.take n).length=n:=by simp;omega
 refine wpIn_region_dagA hF hm (m.take n) (m.drop n) (by simp) (by simp;omega) h1 specs (by omega) hp hw0 hst (λo ho=>hgd o (by simpa using ho)) hst2 (λenv W hG=>?_) (λenv W hG hok=>?_)
 ·have:=(obls_of_KA 0 m specs a (by omega) (h env W hG)).1
  rwa[hlen]at this
 ·have hx:=(obls_of_KA 0 m specs a (by omega) (h env W hG)).2
  rw[hlen]at hx
  have hx:=hx hok
  split
  ·rename_i hnil
   rw[hnil]at hx
   exact hx
  ·rename_i hne
   cases hd:m.drop n with
   |nil=>exact absurd hd hne
   |cons o t=>
    cases t with
    |cons o' t'=>
     have h5:(m.drop n).length<=1:=by simp;omega
     rw[hd]at h5
     simp at h5
    |nil=>
     rw[hd]at hx h4
     have hg:o.guard=none:=by simpa using h4
     have ho:m.toArray[(m.take n).length]? =some o:=by
      rw[hl,List.getElem?_toArray]
      have:m[n]? =(m.drop n)[0]? :=by simp
      rw[this,hd];rfl
     unfold wpOpIn
     simp only[ho,Region.wanted,hg,if_true]
     exact wpIn_of_does hF (dagOk_at h1 ho).2.1 hx (λv W' hv=>hv)
theorem dagA(n:Nat){id:Nat}{m:List Oper}(hm:P.follows .mixedOrders=true)(hB:dagFit n m=true)(specs:List Spec)(hlen:specs.length=n)
 (hp:p.Good)(hw0:∀W,Gr w W->p.P0 W)(hst:∀s∈specs,∀v W W',Gr W W'->s.ok v W->s.ok v W')
 (hgd:∀o,m[p.k]? =some o->o.guard=none) (hst2:∀(i:Nat)s,i≠p.k->p.keep i=true->Before m.toArray p.k i->specs[i]? =some s->∀v W W',p.P0 W->p.A W W'->s.ok v W->s.ok v W')
 (h:∀env W,p.P1 W->OblsKA p P m.toArray specs env W (dagEndA p P Q specs env W) 0 m specs a):
 (Code.region id m.toArray true).wp P Q a w:=
 (wpIn_wide (n:=0)).1 (dagAIn n (lets_wide 0 P) hm hB specs hlen hp hw0 hst hgd hst2 h)
end
theorem does_append{P:Program}{o:Oper}{a:Act}{W:World}{R:Value->World->Prop}(s x:Operand)(t:TypeId)
 (ho:o.op=.call {callee:=.builtin .append,args:=#[s,x],argTypes:=#[t,t]}){v u:Value}(hs:a.eval s=v)(hx:a.eval x=u)
 (hr:∃v' w',(Builtin.append_ #[t,t] o.type #[v,u]).run P W=.ok v' w'/\R v' w'):dsA P o a W R:=by
 obtain⟨v',w',h1,h2⟩:=hr
 unfold dsA execOp
 simp only[ho,resolve,invoke,builtin,Sem.run_bind,Sem.run_pure,Result.andThen_ok,List.map_toArray,List.map_cons,List.map_nil,hs,hx,h1]
 exact h2
theorem app_of_run{P:Program}{ops:Array Oper}{o:Oper}{a:Act}{W:World}{R:Value->World->Prop}{E:Prop}(hgd:o.guard=none)(s x:Operand)(t:TypeId)
 (ho:o.op=.call {callee:=.builtin .append,args:=#[s,x],argTypes:=#[t,t]}){v u:Value}(hs:a.eval s=v)(hx:a.eval x=u)
 (hr:∃v' w',(Builtin.append_ #[t,t] o.type #[v,u]).run P W=.ok v' w'/\R v' w'):if Region.wanted o (yielded ops a.tmps)=true then dsA P o a W R else E:=by
 rw[if_pos (by simp[Region.wanted,hgd])]
 exact does_append s x t ho hs hx hr
theorem below_row{B:Nat}{w Wc W3:World}{row:Option Nat}(hW:Below B w Wc)(hgr:Wc.grownBy W3 row)(hB:∀r,row=some r->B<=r)(hs:B<=Wc.heap.size):Below B w W3:=
 hW.trans ⟨hgr.os,hgr.tape,hgr.output,hgr.size,λi hi=>hgr.block i (by omega) (λe=>by have:=hB i e.symm;omega)⟩
theorem sl_news{W:World}{B b o:Nat}{n c:Nat}{xs:List Int}(h:Sl 1 encI W B (some ⟨b,o,none⟩) n c xs)(hn:0<n):∀j u,(xs.map (Value.int .i64))[j]? =some u->W.cell? ((⟨b,o,none⟩:Addr).add j)=some u:=by
 intro j u hu
 obtain⟨b',o',hA,_,hc⟩:=h.at_ hn
 cases hA
 rw[List.getElem?_map]at hu
 cases hx:xs[j]? with
 |none=>rw[hx]at hu;cases hu
 |some x=>
  rw[hx]at hu
  cases hu
  have:=hc j x hx 0 _ rfl
  have hadd:(⟨b,o,none⟩:Addr).add j=⟨b,o+j,none⟩:=by unfold Addr.add;split<;>simp_all
  rw[hadd]
  simpa using this
def GrT(B:Nat)(T:TypeId)(V V':World):Prop:=∃row,V.grownBy V' row/\∀r,row=some r->B<=r/\∃cs fr,V.heap[r]? =some (.cells cs T fr)
def Ap.fresh(w:World)(k:Nat)(T:TypeId)(keep:Nat->Bool):Ap:=⟨k,λW=>Gr w W,λW=>Gr w W,GrT w.heap.size T,keep⟩
theorem Ap.fresh_good(w:World)(k:Nat)(T:TypeId)(keep:Nat->Bool):(Ap.fresh w k T keep).Good where
 le _ h:=h
 g0 _ _ h hg:=Below.later h hg
 g1 _ _ h hg:=Below.later h hg
 a1 _ _ h ha:=by
  obtain⟨row,h1,h2⟩:=ha
  exact below_row h h1 (λr hr=>(h2 r hr).1) h.size
def StabK(T:World->World->Prop)(keep:Nat->Bool):Nat->List Spec->Prop
 |_,[]=>True
 |i,s::l=>(keep i=true->∀v W W',T W W'->s.ok v W->s.ok v W')/\StabK T keep (i+1) l
theorem stabK_at{T:World->World->Prop}{keep:Nat->Bool}:∀(l:List Spec)(j:Nat),StabK T keep j l->∀(i:Nat)(s:Spec),keep (j+i)=true->l[i]? =some s->∀v W W',T W W'->s.ok v W->s.ok v W'
 |[],_,_,i,s,_,hs=>by simp at hs
 |a::l,j,h,0,s,hk,hs=>by
  simp at hs
  subst hs
  exact h.1 hk
 |a::l,j,h,i+1,s,hk,hs=>stabK_at l (j+1) h.2 i s (by rw[show j+1+i=j+(i+1)by omega];exact hk) (by simpa using hs)
def lateOk(late:Nat->Bool)(k:Nat)(m:List Oper):Bool:=(List.range m.length).all λi=>!late i||(match m[i]? with|none=>false|some o=>o.after.any λe=>Region.binds .any e&&(e.on==k||(late e.on&&decide (e.on<i))))
theorem lateOk_at{late:Nat->Bool}{k:Nat}{m:List Oper}(h:lateOk late k m=true):∀{i:Nat},i<m.length->Before m.toArray k i->late i=false:=by
 have key:∀(d i:Nat),i<=d->i<m.length->late i=true->∀Ls:Nat->Bool,Ls i=true->Ls k=false->(∀(j:Nat)(oj:Oper),Ls j=true->m.toArray[j]? =some oj->∀e∈oj.after,Region.binds .any e=true->Ls e.on=true)->False:=by
  intro d
  induction d with
  |zero=>
   intro i hd hi hl Ls h1 h2 h3
   have hx:=List.all_eq_true.1 h i (List.mem_range.2 hi)
   rw[hl,List.getElem?_eq_getElem hi]at hx
   simp only[Bool.not_true,Bool.false_or]at hx
   obtain⟨e,he,hb⟩:=Array.any_eq_true'.1 hx
   simp only[Bool.and_eq_true,Bool.or_eq_true,beq_iff_eq,decide_eq_true_eq]at hb
   have h4:=h3 i _ h1 (by rw[List.getElem?_toArray];exact List.getElem?_eq_getElem hi) e he hb.1
   rcases hb.2 with h5|h5
   ·rw[h5,h2]at h4;cases h4
   ·omega
  |succ d ih=>
   intro i hd hi hl Ls h1 h2 h3
   have hx:=List.all_eq_true.1 h i (List.mem_range.2 hi)
   rw[hl,List.getElem?_eq_getElem hi]at hx
   simp only[Bool.not_true,Bool.false_or]at hx
   obtain⟨e,he,hb⟩:=Array.any_eq_true'.1 hx
   simp only[Bool.and_eq_true,Bool.or_eq_true,beq_iff_eq,decide_eq_true_eq]at hb
   have h4:=h3 i _ h1 (by rw[List.getElem?_toArray];exact List.getElem?_eq_getElem hi) e he hb.1
   rcases hb.2 with h5|h5
   ·rw[h5,h2]at h4;cases h4
   ·exact ih e.on (by omega) (by omega) h5.1 Ls h4 h2 h3
 intro i hi⟨Ls,h1,h2,h3⟩
 cases hl:late i with
 |false=>rfl
 |true=>exact(key i i (Nat.le_refl _) hi hl Ls h1 h2 h3).elim
theorem dagFresh(n k:Nat)(T:TypeId)(keep late:Nat->Bool){P:Program}{Q:Exit->Act->World->Prop}{a:Act}{w:World}{id:Nat}{m:List Oper}(hm:P.follows .mixedOrders=true)(hB:dagFit n m=true)(specs:List Spec)(hlen:specs.length=n)
 (hst:∀s∈specs,∀v W W',Gr W W'->s.ok v W->s.ok v W')
 (hgd:∀o,m[k]? =some o->o.guard=none) (hlate:lateOk late k m=true) (hst2:StabK (λW W'=>Gr w W/\GrT w.heap.size T W W') (λi=>keep i&&!late i) 0 specs)
 (h:∀env W,Gr w W->OblsKA (Ap.fresh w k T keep) P m.toArray specs env W (dagEndA (Ap.fresh w k T keep) P Q specs env W) 0 m specs a):
 (Code.region id m.toArray true).wp P Q a w:=
 dagA (p:=Ap.fresh w k T keep) n hm hB specs hlen (Ap.fresh_good w k T keep) (λ_ h=>h) hst hgd (λi s _ hk hn hs v W W' h1 h2=>stabK_at specs 0 hst2 i s (by
  have hi:i<m.length:=by
   simp only[dagFit,Bool.and_eq_true,decide_eq_true_eq]at hB
   have:=(List.getElem?_eq_some_iff.1 hs).1
   omega
  rw[Nat.zero_add,lateOk_at hlate hi hn,show keep i=true from hk]
  rfl) hs v W W' ⟨h1,h2⟩) h
theorem grT_of_own{B base n size:Nat}{T:TypeId}{V V':World}{v:Value}{xs:List Value}(h:V.grownBy V' v.ownBlock)(ho:V.ownsRow base T size v n xs)(hB:B<=base):GrT B T V V':=by
 refine⟨v.ownBlock,h,λr hr=>?_⟩
 rcases ho.2 with⟨rfl,_⟩|⟨g,cap,cur,rfl,hb,hg,_⟩
 ·cases hr
 ·simp only[Value.ownBlock,Option.some.injEq]at hr
  subst hr
  exact⟨by omega,cur,_,hg⟩
end Go.Proofs.YtifehdoghfnhoaaGreatDoor
namespace Go.Proofs.YtifehdoghfnhoaaGreatDoor
open Go.RowKit Go.Shelf
section
variable{α:Type}{k:Nat}{enc:α->List Value}
theorem fm_len(hk:∀x,(enc x).length=k)(xs:List α):(xs.flatMap enc).length=xs.length*k:=by
 induction xs with
 |nil=>simp
 |cons x xs ih=>rw[List.flatMap_cons,List.length_append,ih,hk,List.length_cons,Nat.succ_mul,Nat.add_comm]
theorem fm_get(hk:∀x,(enc x).length=k):∀(xs:List α)(i:Nat)(x:α),xs[i]? =some x->∀r,r<k->(xs.flatMap enc)[i*k+r]? =(enc x)[r]?
 |[],i,x,h,_,_=>by simp at h
 |y::xs,0,x,h,r,hr=>by
  simp at h
  subst h
  rw[List.flatMap_cons,Nat.zero_mul,Nat.zero_add,List.getElem?_append_left (by rw[hk];exact hr)]
 |y::xs,i+1,x,h,r,hr=>by
  have h1:xs[i]? =some x:=by simpa using h
  rw[List.flatMap_cons,List.getElem?_append_right (by rw[hk,Nat.succ_mul];omega),hk]
  rw[show(i+1)*k+r-k=i*k+r by rw[Nat.succ_mul];omega]
  exact fm_get hk xs i x h1 r hr
theorem fm_news(hk:∀x,(enc x).length=k){W:World}{B b o n c:Nat}{xs:List α}(h:Sl k enc W B (some ⟨b,o,none⟩) n c xs)(hn:0<n):∀j u,(xs.flatMap enc)[j]? =some u->W.cell? ((⟨b,o,none⟩:Addr).add j)=some u:=by
 intro j u hu
 obtain⟨b',o',hA,_,hc⟩:=h.at_ hn
 cases hA
 have hj:j<xs.length*k:=by rw[<-fm_len hk];exact(List.getElem?_eq_some_iff.1 hu).1
 have hk0:0<k:=by
  rcases Nat.eq_zero_or_pos k with e|e
  ·subst e;simp at hj
  ·exact e
 have hq:j / k<xs.length:=(Nat.div_lt_iff_lt_mul hk0).2 hj
 have hx:xs[j / k]? =some xs[j / k]:=List.getElem?_eq_getElem hq
 have h1:=fm_get hk xs (j / k) _ hx (j % k) (Nat.mod_lt _ hk0)
 rw[Nat.div_add_mod' j k,hu]at h1
 have h2:=hc (j / k) _ hx (j % k) u h1.symm
 have hadd:(⟨b,o,none⟩:Addr).add j=⟨b,o+j,none⟩:=by unfold Addr.add;split<;>simp_all
 rw[hadd,<-h2,Nat.add_assoc,Nat.div_add_mod' j k]
theorem run_app_sl{P:Program}(hk:∀x,(enc x).length=k)(h1c:∀x,∀u∈enc x,u.oneCell'=true)(hk0:0<k)(t e ty:TypeId){i:TypeInfo}{z:Value}{bytes:Nat}(hund:P.underlying t=some (.slice e))(hi:P.info? e=some i)(hz:i.zero=some z)(hsz:i.size=k)(hby:i.bytes=bytes)(hzs:z.cells.size=k)
 {W:World}{base:Nat}{v:Value}{xs:List α}(hown:W.ownsRow base e k v xs.length (xs.flatMap enc)){A:Option Addr}{n c:Nat}{ys:List α}(hs:Sl k enc W W.heap.size A n c ys)(hb0:bytes<=1000)(hn0:xs.length+n<=1000000)(hb:base<=W.heap.size):
 ∃v' W',(Builtin.append_ #[t,t] ty #[v,.slice A n c]).run P W=.ok v' W'/\(W.grownBy W' v.ownBlock/\W'.ownsRow base e k v' (xs++ys).length ((xs++ys).flatMap enc)):=by
 by_cases h0:n=0
 ·subst h0
  have hy:ys=[]:=List.length_eq_zero_iff.1 hs.len
  subst hy
  rw[List.append_nil]
  refine⟨v,W,?_,⟨rfl,rfl,rfl,Nat.le_refl _,λ_ _ _=>rfl⟩,hown⟩
  rcases hown.2 with⟨rfl,hz0⟩|⟨g,cap,cur,rfl,_,hg,hc,hm,_⟩
  ·cases A with
   |none=>simp[Builtin.append_,run_underlying hund,sizeOf,typeInfo,hi,Builtin.lenOf,Builtin.firstCells]
   |some A=>simp[Builtin.append_,run_underlying hund,sizeOf,typeInfo,hi,Builtin.lenOf,Builtin.firstCells,loadCells,loadCellsFrom]
  ·cases A with
   |none=>simp[Builtin.append_,run_underlying hund,sizeOf,typeInfo,hi,Builtin.lenOf,Builtin.firstCells,loadCells,storeCells,hc]
   |some A=>simp[Builtin.append_,run_underlying hund,sizeOf,typeInfo,hi,Builtin.lenOf,Builtin.firstCells,loadCells,loadCellsFrom,storeCells,hc]
 ·obtain⟨b,o,hA,_,_⟩:=hs.at_ (by omega)
  subst hA
  have hl:=hs.len
  obtain⟨v',W',h1,h2,h3,_⟩:=run_append_own (P:=P) W base t ty e i z k bytes hund hi hz hsz hby hzs hk0 v xs.length _ hown ⟨b,o,none⟩ n c (ys.flatMap enc) (by rw[fm_len hk,hl]) (fm_news hk hs (by omega)) (λu hu=>by
   obtain⟨x,_,hx⟩:=List.mem_flatMap.1 hu
   exact h1c x u hx) (by simp only[maxLen];omega) (by
   have h5:(xs.length+n)*bytes<=1000000*1000:=Nat.mul_le_mul hn0 hb0
   omega) hb
  refine⟨v',W',h1,h3,?_⟩
  rw[List.length_append,List.flatMap_append,hl]
  exact h2
end
end Go.Proofs.YtifehdoghfnhoaaGreatDoor
