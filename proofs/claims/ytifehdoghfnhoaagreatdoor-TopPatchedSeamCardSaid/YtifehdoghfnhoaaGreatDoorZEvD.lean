/- Closed calls are reckoned by the kernel: single operations, one lemma a kind. -/
import Derived.Test.YtifehdoghfnhoaaGreatDoorZEvB
namespace Go.Proofs.YtifehdoghfnhoaaGreatDoor.Ev
noncomputable section
open Go.RowKit Go.Shelf
def pureRun{α:Type}(P:Program):Sem α->Option α
 | .pure a=>some a
 | .program k=>pureRun P (k P)
 | .mark _ k=>pureRun P k
 |_=>none
theorem pureRun_run{α:Type}{P:Program}{s:Sem α}:∀{a:α},pureRun P s=some a->∀W,s.run P W=.ok a W:=by
 induction s with
 |pure x=>intro a h W;simp[pureRun]at h;subst h;rfl
 |program k ih=>intro a h W;exact ih P h W
 |mark m k ih=>intro a h W;exact ih h W
 |_=>intro a h;simp[pureRun]at h
theorem add_at(b o n:Nat):(⟨b,o,none⟩:Addr).add n=⟨b,o+n,none⟩:=by unfold Addr.add;split<;>simp_all
theorem run_load{P:Program}{W:World}{a:Addr}{v:Value}(h:W.cell? a=some v):(load a).run P W=.ok v W:=by simp[load,Sem.run,h]
theorem run_loadFrom{P:Program}{W:World}{b o:Nat}:∀(vs:List Value)(i:Nat)(acc:Array Value),(∀j v,vs[j]? =some v->W.cell? ⟨b,o+(i+j),none⟩=some v)->(loadCellsFrom ⟨b,o,none⟩ i vs.length acc).run P W=.ok (acc++vs.toArray) W
 |[],i,acc,_=>by simp[loadCellsFrom]
 |v::vs,i,acc,h=>by
  have h0:=h 0 v rfl
  have ih:=run_loadFrom (P:=P) vs (i+1) (acc.push v) (λj u hu=>by
   have:=h (j+1) u (by simpa using hu)
   rwa[show o+(i+1+j)=o+(i+(j+1))by omega])
  simp only[List.length_cons,loadCellsFrom,Sem.run_bind,add_at]
  rw[run_load (by simpa using h0)]
  simp only[Result.andThen_ok]
  rw[ih]
  simp
theorem run_loadCells{P:Program}{W:World}{b o:Nat}{vs:List Value}(h:∀j v,vs[j]? =some v->W.cell? ⟨b,o+j,none⟩=some v):(loadCells ⟨b,o,none⟩ vs.length).run P W=.ok vs.toArray W:=by
 unfold loadCells
 rw[run_loadFrom vs 0 #[] (by simpa using h)]
 simp
theorem splice_set{L:List Value}{k n:Nat}{v:Value}{vs:List Value}(h:k<L.length):(L.set k v).take (k+1)++vs++(L.set k v).drop (k+1+n)=L.take k++v::vs++L.drop (k+(n+1)):=by
 rw[List.take_add_one,List.getElem?_set_self h,List.take_set_of_le (Nat.le_refl _),List.drop_set_of_lt (by omega),show k+1+n=k+(n+1)by omega]
 simp
theorem run_storeFrom{P:Program}{b o:Nat}{t:TypeId}:∀(vs:List Value)(i:Nat)(W:World)(arr:Array Value),W.heap[b]? =some (.cells arr t (0,0))->o+i+vs.length<=arr.size->(∀v∈vs,v.oneCell'=true)->
 ∃W' arr',(storeCells ⟨b,o,none⟩ vs i).run P W=.ok () W'/\W.grownBy W' (some b)/\W'.heap[b]? =some (.cells arr' t (0,0))/\arr'.toList=arr.toList.take (o+i)++vs++arr.toList.drop (o+i+vs.length)
 |[],i,W,arr,hb,hl,_=>⟨W,arr,by simp[storeCells],⟨rfl,rfl,rfl,Nat.le_refl _,λ_ _ _=>rfl⟩,hb,by simp⟩
 |v::vs,i,W,arr,hb,hl,h1=>by
  simp only[List.length_cons]at hl
  have hcell:W.cell? ⟨b,o+i,none⟩=some arr[o+i]:=by simp[World.cell?,hb]
  have hfr:W.frozen? ⟨b,o+i,none⟩=false:=by simp[World.frozen?,hb]
  have hset:(W.setCell ⟨b,o+i,none⟩ v).heap[b]? =some (.cells (arr.setIfInBounds (o+i) v) t (0,0)):=by
   simp[World.setCell,Array.getElem?_modify,hb]
  obtain⟨W',arr',h2,h3,h4,h5⟩:=run_storeFrom (P:=P) (o:=o) vs (i+1) (W.setCell ⟨b,o+i,none⟩ v) (arr.setIfInBounds (o+i) v) hset (by simp;omega) (λu hu=>h1 u (List.mem_cons_of_mem _ hu))
  refine⟨W',arr',?_,?_,h4,?_⟩
  ·have hv:=h1 v (List.mem_cons_self ..)
   simp only[storeCells,Sem.run_bind,add_at]
   have:(store ⟨b,o+i,none⟩ v).run P W=.ok () (W.setCell ⟨b,o+i,none⟩ v):=by
    cases v<;>simp[Value.oneCell']at hv<;>simp[store,Sem.run,hcell,hfr]
   rw[this]
   exact h2
  ·refine⟨h3.os,h3.tape,h3.output,by simpa using h3.size,λj hj hne=>(h3.block j (by simpa using hj) hne).trans (Below.heap_setCell W ⟨b,o+i,none⟩ v j (λe=>hne (by cases e;rfl)))⟩
  ·rw[h5,Array.toList_setIfInBounds,show o+(i+1)=o+i+1 by omega,splice_set (by simp;omega)]
   rfl
def litsOf:List AV->Option (List Value)
 |[]=>some []
 | .lit v::l=>match litsOf l with
   |some vs=>some (v::vs)
   |none=>none
 |_=>none
theorem litsOf_rel{ρ:Rho}:∀{l:List AV}{xs vs:List Value},litsOf l=some xs->RelL ρ l vs->vs=xs
 |[],xs,vs,h,hr=>by simp[litsOf]at h;subst h;exact hr
 | .lit v::l,xs,vs,h,hr=>by
   obtain⟨u,us,h1,h2,h3⟩:=hr
   simp only[litsOf]at h
   cases hl:litsOf l with
   |none=>rw[hl]at h;cases h
   |some ys=>
    rw[hl]at h
    cases h
    rw[h3,litsOf_rel hl h2,show u=v from h1]
 | .ptr _ _::_,xs,vs,h,hr=>by simp[litsOf]at h
 | .sl _ _ _ _ _ _::_,xs,vs,h,hr=>by simp[litsOf]at h
 | .emp _::_,xs,vs,h,hr=>by simp[litsOf]at h
 | .agg _::_,xs,vs,h,hr=>by simp[litsOf]at h
 | .tup _::_,xs,vs,h,hr=>by simp[litsOf]at h
 | .fn _ _ _::_,xs,vs,h,hr=>by simp[litsOf]at h
 | .mp _::_,xs,vs,h,hr=>by simp[litsOf]at h
 | .yld _::_,xs,vs,h,hr=>by simp[litsOf]at h
 | .dead::_,xs,vs,h,hr=>by simp[litsOf]at h
def mkAgg(l:List AV):AV:=match litsOf l with
 |some vs=>.lit (.agg vs.toArray)
 |none=>.agg l
theorem mkAgg_rel{ρ:Rho}{l:List AV}{vs:List Value}(h:RelL ρ l vs):RelV ρ (mkAgg l) (.agg vs.toArray):=by
 unfold mkAgg
 cases hl:litsOf l with
 |none=>exact⟨vs,h,rfl⟩
 |some xs=>
  rw[litsOf_rel hl h]
  rfl
def AV.cells:AV->List AV
 | .lit v=>v.cells.toList.map .lit
 | .agg cs=>cs
 |a=>[a]
def AV.alive:AV->Bool
 | .dead=>false
 |_=>true
theorem cells_rel{ρ:Rho}{a:AV}{v:Value}(hd:a.alive=true)(h:RelV ρ a v):RelL ρ a.cells v.cells.toList:=by
 cases a with
 |lit x=>rw[show v=x from h];exact RelL.lits _
 |agg cs=>
  obtain⟨vs,h1,rfl⟩:=h
  simpa[Value.cells,AV.cells]using h1
 |ptr n o=>obtain⟨b,κ,h1,rfl⟩:=h;exact⟨_,[],⟨b,κ,h1,rfl⟩,rfl,rfl⟩
 |sl n o l lb es ex=>obtain⟨b,κ,c,h1,rfl,h2⟩:=h;exact⟨_,[],⟨b,κ,c,h1,rfl,h2⟩,rfl,rfl⟩
 |emp n=>obtain⟨b,κ,o,c,h1,rfl⟩:=h;exact⟨_,[],⟨b,κ,o,c,h1,rfl⟩,rfl,rfl⟩
 |tup cs=>obtain⟨vs,h1,rfl⟩:=h;exact⟨_,[],⟨vs,h1,rfl⟩,rfl,rfl⟩
 |fn f a c=>obtain⟨xs,cs,h1,h2,rfl⟩:=h;exact⟨_,[],⟨xs,cs,h1,h2,rfl⟩,rfl,rfl⟩
 |mp n=>obtain⟨b,κ,h1,rfl⟩:=h;exact⟨_,[],⟨b,κ,h1,rfl⟩,rfl,rfl⟩
 |yld n=>obtain⟨b,κ,h1,rfl⟩:=h;exact⟨_,[],⟨b,κ,h1,rfl⟩,rfl,rfl⟩
 |dead=>cases hd
def AV.one:AV->Bool
 | .lit v=>v.oneCell'
 | .agg _=>false
 | .tup _=>false
 | .dead=>false
 |_=>true
theorem one_rel{ρ:Rho}{a:AV}{v:Value}(h1:a.one=true)(h:RelV ρ a v):v.oneCell'=true:=by
 cases a with
 |lit x=>rw[show v=x from h];exact h1
 |agg cs=>cases h1
 |tup cs=>cases h1
 |dead=>cases h1
 |ptr n o=>obtain⟨b,κ,h1,rfl⟩:=h;rfl
 |sl n o l lb es ex=>obtain⟨b,κ,c,h1,rfl,h2⟩:=h;rfl
 |emp n=>obtain⟨b,κ,o,c,h1,rfl⟩:=h;rfl
 |fn f a c=>obtain⟨xs,cs,h1,h2,rfl⟩:=h;rfl
 |mp n=>obtain⟨b,κ,h1,rfl⟩:=h;rfl
 |yld n=>obtain⟨b,κ,h1,rfl⟩:=h;rfl
theorem ones_rel{ρ:Rho}:∀{l:List AV}{vs:List Value},l.all AV.one=true->RelL ρ l vs->∀v∈vs,v.oneCell'=true
 |[],_,_,h,v,hv=>by rw[show _=[]from h]at hv;cases hv
 |a::l,_,ha,⟨u,us,h1,h2,h3⟩,v,hv=>by
  subst h3
  simp only[List.all_cons,Bool.and_eq_true]at ha
  rcases List.mem_cons.1 hv with rfl|hv
  ·exact one_rel ha.1 h1
  ·exact ones_rel ha.2 h2 v hv
def evA(A:T AV):Operand->AV
 | .tmp t=>(A.get t).getD .dead
 | .const v=>.lit v
 | .global g=>.lit (.pointer (some ⟨g,0,none⟩))
 | .func f=>.lit (.func (.func f) #[] #[])
theorem evA_rel{ρ:Rho}{A:T AV}{n:Nat}{a:Act}(h:RelT ρ A n a.tmps):∀x:Operand,RelV ρ (evA A x) (a.eval x)
 | .tmp t=>h.2 t
 | .const _=>rfl
 | .global _=>rfl
 | .func _=>rfl
def isAggT(P:Program)(t:TypeId):Option Bool:=match P.underlying t with
 |some (.struct _)=>some true
 |some (.array _ _)=>some true
 |some _=>some false
 |none=>none
theorem run_isAgg{P:Program}{t:TypeId}{b:Bool}(h:isAggT P t=some b)(W:World):(isAgg t).run P W=.ok b W:=by
 unfold isAggT at h
 cases hu:P.underlying t with
 |none=>rw[hu]at h;cases h
 |some d=>
  rw[hu]at h
  unfold isAgg
  rw[Sem.run_bind,run_underlying hu]
  cases d<;>cases h<;>rfl
theorem run_sizeOf{P:Program}{t:TypeId}{i:TypeInfo}(h:P.info? t=some i)(W:World):(sizeOf t).run P W=.ok i.size W:=by
 simp[sizeOf,typeInfo,h]
theorem run_zeroValue{P:Program}{t:TypeId}{i:TypeInfo}{z:Value}(h:P.info? t=some i)(hz:i.zero=some z)(W:World):(zeroValue t).run P W=.ok z W:=by
 simp[zeroValue,typeInfo,h,hz]
inductive HEff where
 |no
 |new (o:AO)
 |wr (n:Nat) (o:AO)
 |app (n:Nat) (o:AO)
 |hide (n:Nat)
def HEff.heap(H:Nat->Option AO)(k:Nat):HEff->(Nat->Option AO)
 | .no=>H
 | .new o=>upH H k (some o)
 | .wr n o=>upH H n (some o)
 | .app n o=>upH (upH H n none) k (some o)
 | .hide n=>upH H n none
def HEff.next(k:Nat):HEff->Nat
 | .no=>k
 | .new _=>k+1
 | .wr _ _=>k
 | .app _ _=>k+1
 | .hide _=>k
def Sound(N:Nat)(ρ:Rho)(H:Nat->Option AO)(k:Nat)(P:Program)(o:Oper)(a:Act)(W:World)(r:AV×HEff):Prop:=
 dsA P o a W (λv W'=>∃ρ',Post N ρ H W (r.2.heap H k) k (r.2.next k) ρ' W'/\RelV ρ' r.1 v)
theorem Sound.value{N:Nat}{ρ:Rho}{H:Nat->Option AO}{k:Nat}{P:Program}{o:Oper}{a:Act}{W:World}{av:AV}{v:Value}(h:RelH N ρ H W)(hr:(execOp a.eval o).run P W=.ok (.value v) W)(hv:RelV ρ av v):Sound N ρ H k P o a W (av,.no):=by
 unfold Sound dsA
 rw[hr]
 exact⟨ρ,Post.same h (brefl W),hv⟩
end
end Go.Proofs.YtifehdoghfnhoaaGreatDoor.Ev
namespace Go.Proofs.YtifehdoghfnhoaaGreatDoor.Ev
noncomputable section
open Go.RowKit Go.Shelf
section
variable{N:Nat}{ρ:Rho}{H:Nat->Option AO}{k:Nat}{P:Program}{o:Oper}{a:Act}{W:World}{A:T AV}
def Looks(ρ:Rho)(A:T AV)(a:Act)(o:Oper):Prop:=∀x∈o.op.operands,RelV ρ (evA A x) (a.eval x)
theorem Sound.val(h:RelH N ρ H W){s:Sem Value}(he:execOp a.eval o=(do pure (.value (<-s)))){av:AV}{v:Value}(hr:s.run P W=.ok v W)(hv:RelV ρ av v):Sound N ρ H k P o a W (av,.no):=
 Sound.value h (by rw[he,Sem.run_bind,hr];rfl) hv
theorem Sound.make{s:Sem Value}(he:execOp a.eval o=(do pure (.value (<-s)))){av:AV}{eff:HEff}{v:Value}{W':World}{ρ':Rho}(hr:s.run P W=.ok v W')(hp:Post N ρ H W (eff.heap H k) k (eff.next k) ρ' W')(hv:RelV ρ' av v):Sound N ρ H k P o a W (av,eff):=by
 unfold Sound dsA
 rw[he,Sem.run_bind,hr]
 exact⟨ρ',hp,hv⟩
theorem Sound.unit{s:Sem Unit}(he:execOp a.eval o=(do s;pure .skip)){eff:HEff}{W':World}{ρ':Rho}(hr:s.run P W=.ok () W')(hp:Post N ρ H W (eff.heap H k) k (eff.next k) ρ' W'):Sound N ρ H k P o a W (.lit undef,eff):=by
 unfold Sound dsA
 rw[he,Sem.run_bind,hr]
 exact⟨ρ',hp,rfl⟩
def litEval(A:T AV)(x:Operand):Value:=match evA A x with
 | .lit v=>v
 |_=>undef
def allLit(A:T AV)(l:List Operand):Bool:=l.all (λx=>match evA A x with| .lit _=>true|_=>false)
def plainOp:Op->Bool
 | .select _ _=>false
 | .defer _=>false
 |_=>true
def litA(P:Program)(A:T AV)(o:Oper):Option (AV×HEff):=
 bif allLit A o.op.operands.toList&&plainOp o.op then
  match pureRun P (execOp (litEval A) o)with
  |some (.value v)=>some (.lit v,.no)
  |_=>none
 else none
theorem litA_sound(hl:Looks ρ A a o)(h:RelH N ρ H W){r:AV×HEff}(he:litA P A o=some r):Sound N ρ H k P o a W r:=by
 unfold litA at he
 cases hc:(allLit A o.op.operands.toList&&plainOp o.op)with
 |false=>rw[hc]at he;cases he
 |true=>
  rw[hc]at he
  simp only[cond_true]at he
  rw[Bool.and_eq_true]at hc
  have hs:∀cs b,o.op≠.select cs b:=λcs b e=>by rw[e]at hc;cases hc.2
  have hcong:execOp (litEval A) o=execOp a.eval o:=by
   refine execOp_congr o hs (λx hx=>?_)
   have h1:=List.all_eq_true.1 hc.1 x (Array.mem_toList_iff.2 hx)
   have h2:=hl x hx
   unfold litEval
   cases hv:evA A x with
   |lit v=>rw[hv]at h2;exact(show a.eval x=v from h2).symm
   |_=>rw[hv]at h1;simp at h1
  rw[hcong]at he
  cases hp:pureRun P (execOp a.eval o)with
  |none=>rw[hp]at he;cases he
  |some nx=>
   rw[hp]at he
   cases nx with
   |value v=>cases he;exact Sound.value h (pureRun_run hp W) rfl
   |_=>cases he
theorem move_sound{x:Operand}(ho:o.op=.move x\/o.op=.assign x)(hl:Looks ρ A a o)(h:RelH N ρ H W):Sound N ρ H k P o a W (evA A x,.no):=by
 have hx:x∈o.op.operands:=by rcases ho with e|e<;>rw[e]<;>simp[Op.operands]
 refine Sound.value h ?_ (hl x hx)
 rcases ho with e|e<;>simp[execOp,e]
theorem pick_sound{c x y:Operand}(ho:o.op=.pick c x y)(hl:Looks ρ A a o)(h:RelH N ρ H W){b:Bool}(hc:evA A c=.lit (.bool b)):Sound N ρ H k P o a W (evA A (if b then x else y),.no):=by
 have h1:=hl c (by rw[ho];simp[Op.operands])
 rw[hc]at h1
 have h1:a.eval c=.bool b:=h1
 refine Sound.value h (v:=a.eval (if b then x else y)) ?_ (hl _ (by rw[ho];cases b<;>simp[Op.operands]))
 unfold execOp
 rw[ho]
 cases b<;>simp[h1,asBool]
theorem extract_sound{t:Operand}{ix:Nat}(ho:o.op=.extract t ix)(hl:Looks ρ A a o)(h:RelH N ρ H W){cs:List AV}(hc:evA A t=.tup cs){av:AV}(hi:cs[ix]? =some av):Sound N ρ H k P o a W (av,.no):=by
 have h1:=hl t (by rw[ho];simp[Op.operands])
 rw[hc]at h1
 obtain⟨vs,h2,h3⟩:=h1
 obtain⟨v,h4,h5⟩:=h2.get hi
 refine Sound.val h (s:=Instr.extract (a.eval t) ix) (by unfold execOp;rw[ho]) (v:=v) ?_ h5
 rw[h3]
 simp[Instr.extract,h4]
theorem nilPtr_sound{x:Operand}(ho:o.op=.nilCheck x)(hl:Looks ρ A a o)(h:RelH N ρ H W){n f:Nat}(hc:evA A x=.ptr n f):Sound N ρ H k P o a W (.ptr n f,.no):=by
 have h1:=hl x (by rw[ho];simp[Op.operands])
 rw[hc]at h1
 have h2:=h1
 obtain⟨b,κ,h3,h4⟩:=h1
 refine Sound.value h (v:=a.eval x) ?_ h2
 simp[execOp,ho,h4]
theorem nilFn_sound{x:Operand}(ho:o.op=.nilCheck x)(hl:Looks ρ A a o)(h:RelH N ρ H W){f:Fn}{l1 l2:List AV}(hc:evA A x=.fn f l1 l2)(hf:∀m,f≠.method m):Sound N ρ H k P o a W (.fn f l1 l2,.no):=by
 have h1:=hl x (by rw[ho];simp[Op.operands])
 rw[hc]at h1
 have h2:=h1
 obtain⟨b,κ,h3,_,h4⟩:=h1
 refine Sound.value h (v:=a.eval x) ?_ h2
 cases f<;>first|exact absurd rfl (hf _)|simp[execOp,ho,h4]
theorem nilYld_sound{x:Operand}(ho:o.op=.nilCheck x)(hl:Looks ρ A a o)(h:RelH N ρ H W){n:Nat}(hc:evA A x=.yld n):Sound N ρ H k P o a W (.yld n,.no):=by
 have h1:=hl x (by rw[ho];simp[Op.operands])
 rw[hc]at h1
 have h2:=h1
 obtain⟨b,κ,h3,h4⟩:=h1
 refine Sound.value h (v:=a.eval x) ?_ h2
 simp[execOp,ho,h4]
theorem makeFunc_sound{f:Fn}{x y:Array Operand}(ho:o.op=.makeFunc f x y)(hl:Looks ρ A a o)(h:RelH N ρ H W):Sound N ρ H k P o a W (.fn f (x.toList.map (evA A)) (y.toList.map (evA A)),.no):=by
 have key:∀l:List Operand,(∀z∈l,z∈o.op.operands)->RelL ρ (l.map (evA A)) (l.map a.eval):=by
  intro l
  induction l with
  |nil=>intro _;rfl
  |cons z zs ih=>intro hz;exact⟨_,_,hl z (hz z (List.mem_cons_self ..)),ih (λu hu=>hz u (List.mem_cons_of_mem _ hu)),rfl⟩
 refine Sound.val h (s:=Instr.makeFunc f (x.map a.eval) (y.map a.eval)) (by unfold execOp;rw[ho]) (v:=.func f (x.map a.eval) (y.map a.eval)) rfl ?_
 refine⟨_,_,key x.toList (λz hz=>by rw[ho];simp[Op.operands]at hz ⊢;exact .inl hz),key y.toList (λz hz=>by rw[ho];simp[Op.operands]at hz ⊢;exact .inr hz),?_⟩
 rw[<-Array.toList_map,<-Array.toList_map]
theorem obj_at(h:RelH N ρ H W){n:Nat}{cs:List AV}{t:TypeId}(hn:H n=some (.cells cs t)){b κ:Nat}(hr:ρ n=some (b,κ)):∃arr:Array Value,W.heap[b]? =some (.cells arr t (0,0))/\arr.size=κ/\cs.length<=κ/\RelL ρ cs (arr.toList.take cs.length):=by
 obtain⟨b',κ',h1,_,h3⟩:=h.obj n _ hn
 rw[hr]at h1
 cases h1
 exact h3
theorem cell_at{b o':Nat}{arr:Array Value}{t:TypeId}{v:Value}(hb:W.heap[b]? =some (.cells arr t (0,0))) {m:Nat} (hv:(arr.toList.take m)[o']? =some v):W.cell? ⟨b,o',none⟩=some v:=by
 have:arr.toList[o']? =some v:=by
  rw[List.getElem?_take]at hv
  split at hv
  ·exact hv
  ·cases hv
 simp[World.cell?,hb]at this ⊢
 exact this
def loadA(P:Program)(t:TypeId)(cs:List AV)(f:Nat):Option AV:=match isAggT P t with
 |some false=>cs[f]?
 |some true=>match P.info? t with
  |some i=>bif Nat.ble (f+i.size) cs.length then some (mkAgg ((cs.drop f).take i.size))else none
  |none=>none
 |none=>none
theorem load_run(h:RelH N ρ H W){n f:Nat}{cs:List AV}{tt:TypeId}(hn:H n=some (.cells cs tt)){t:TypeId}{av v:_}(hv:RelV ρ (.ptr n f) v)(he:loadA P t cs f=some av):∃u,(Instr.loadAt t v).run P W=.ok u W/\RelV ρ av u:=by
 obtain⟨b,κ,hr,rfl⟩:=hv
 obtain⟨arr,hb,h1,h2,h3⟩:=obj_at h hn hr
 unfold loadA at he
 cases hag:isAggT P t with
 |none=>rw[hag]at he;cases he
 |some g=>
  rw[hag]at he
  cases g with
  |false=>
   obtain⟨u,h4,h5⟩:=h3.get he
   refine⟨u,?_,h5⟩
   simp only[Instr.loadAt,Instr.sureAddr,Sem.run_bind,Sem.run_pure,Result.andThen_ok,loadVar,run_isAgg hag,Bool.false_eq_true,if_false]
   exact run_load (cell_at hb h4)
  |true=>
   cases hi:P.info? t with
   |none=>simp[hi]at he
   |some i=>
    simp only[hi]at he
    cases hle:Nat.ble (f+i.size) cs.length with
    |false=>rw[hle]at he;cases he
    |true=>
     rw[hle]at he
     cases he
     have hle:=Nat.le_of_ble_eq_true hle
     refine⟨_,?_,mkAgg_rel ((h3.drop f).take i.size)⟩
     have hlen:(((arr.toList.take cs.length).drop f).take i.size).length=i.size:=by simp;omega
     have hrun:=run_loadCells (P:=P) (W:=W) (b:=b) (o:=f) (vs:=((arr.toList.take cs.length).drop f).take i.size) (λj u hu=>by
      refine cell_at hb (m:=cs.length) ?_
      rw[List.getElem?_take]at hu
      split at hu
      ·rwa[List.getElem?_drop]at hu
      ·cases hu)
     rw[hlen]at hrun
     simp only[Instr.loadAt,Instr.sureAddr,Sem.run_bind,Sem.run_pure,Result.andThen_ok,loadVar,run_isAgg hag,if_true,run_sizeOf hi,hrun]
theorem load_sound{t:TypeId}{x:Operand}(ho:o.op=.load t x)(hl:Looks ρ A a o)(h:RelH N ρ H W){n f:Nat}(hx:evA A x=.ptr n f){cs:List AV}{tt:TypeId}(hn:H n=some (.cells cs tt)){av:AV}(he:loadA P t cs f=some av):Sound N ρ H k P o a W (av,.no):=by
 have h1:=hl x (by rw[ho];simp[Op.operands])
 rw[hx]at h1
 obtain⟨u,h2,h3⟩:=load_run h hn h1 he
 exact Sound.val h (s:=Instr.loadAt t (a.eval x)) (by unfold execOp;rw[ho]) h2 h3
def spliceA(cs:List AV)(f:Nat)(vs:List AV):List AV:=cs.take f++vs++cs.drop (f+vs.length)
theorem spliceA_len{cs vs:List AV}{f:Nat}(h:f+vs.length<=cs.length):(spliceA cs f vs).length=cs.length:=by simp[spliceA];omega
theorem write_run(h:RelH N ρ H W){n f:Nat}{cs:List AV}{tt:TypeId}(hn:H n=some (.cells cs tt)){b κ:Nat}(hr:ρ n=some (b,κ)){vs:List AV}{us:List Value}(hvs:RelL ρ vs us)(h1:vs.all AV.one=true)(hf:f+vs.length<=cs.length):
 ∃W',(storeCells ⟨b,f,none⟩ us).run P W=.ok () W'/\Post N ρ H W (upH H n (some (.cells (spliceA cs f vs) tt))) k k ρ W':=by
 obtain⟨arr,hb,h2,h3,h4⟩:=obj_at h hn hr
 have hul:=hvs.len
 obtain⟨W',arr',h5,h6,h7,h8⟩:=run_storeFrom (P:=P) (b:=b) (o:=f) us 0 W arr hb (by omega) (ones_rel h1 hvs)
 refine⟨W',h5,Post.write h (by rw[hn];simp) hr h6 ⟨arr',h7,?_,by rw[spliceA_len hf];exact h3,?_⟩⟩
 ·rw[<-Array.length_toList,h8];simp;omega
 ·rw[spliceA_len hf,h8]
  have e1:(List.take (f+0) arr.toList++us++List.drop (f+0+us.length) arr.toList).take cs.length=(arr.toList.take cs.length).take f++us++(arr.toList.take cs.length).drop (f+us.length):=by
   rw[List.append_assoc,List.append_assoc,List.take_append,List.take_append,List.take_take,List.take_take,List.drop_take]
   simp only[Nat.add_zero,List.length_take,Array.length_toList]
   rw[show min cs.length f=f by omega,show min f cs.length=f by omega,show min f arr.size=f by omega,List.take_of_length_le (by omega:us.length<=cs.length-f),show cs.length-f-us.length=cs.length-(f+us.length)by omega]
  rw[e1,hul]
  exact((h4.take f).append hvs).append (h4.drop _)
def storeA(P:Program)(t:TypeId)(cs:List AV)(tt:TypeId)(f:Nat)(v:AV):Option AO:=match P.info? t with
 |some i=>bif v.alive&&(Nat.beq v.cells.length i.size&&v.cells.all AV.one&&Nat.ble (f+v.cells.length) cs.length)then some (.cells (spliceA cs f v.cells) tt)else none
 |none=>none
theorem store_sound{t:TypeId}{x y:Operand}(ho:o.op=.store t x y)(hl:Looks ρ A a o)(h:RelH N ρ H W){n f:Nat}(hx:evA A x=.ptr n f){cs:List AV}{tt:TypeId}(hn:H n=some (.cells cs tt)){ob:AO}(he:storeA P t cs tt f (evA A y)=some ob):Sound N ρ H k P o a W (.lit undef,.wr n ob):=by
 have h1:=hl x (by rw[ho];simp[Op.operands])
 have h2':=hl y (by rw[ho];simp[Op.operands])
 rw[hx]at h1
 obtain⟨b,κ,hr,h3⟩:=h1
 unfold storeA at he
 cases hi:P.info? t with
 |none=>rw[hi]at he;cases he
 |some i=>
  simp only[hi]at he
  cases hal:(evA A y).alive with
  |false=>rw[hal]at he;cases he
  |true=>
  have h2:=cells_rel hal h2'
  rw[hal,Bool.true_and]at he
  cases hc:(Nat.beq (evA A y).cells.length i.size&&(evA A y).cells.all AV.one&&Nat.ble (f+(evA A y).cells.length) cs.length)with
  |false=>rw[hc]at he;cases he
  |true=>
   rw[hc]at he
   cases he
   simp only[Bool.and_eq_true]at hc
   obtain⟨⟨c1,c2⟩,c3⟩:=hc
   obtain⟨W',h4,h5⟩:=write_run (P:=P) (k:=k) h hn hr h2 c2 (Nat.le_of_ble_eq_true c3)
   refine Sound.unit (s:=Instr.storeAt t (a.eval x) (a.eval y)) (by unfold execOp;rw[ho]) (W':=W') (ρ':=ρ) ?_ h5
   have hsz:(a.eval y).cells.size=i.size:=by
    have:=h2.len
    have c1:=Nat.eq_of_beq_eq_true c1
    rw[Array.length_toList]at this
    omega
   rw[h3]
   simp only[Instr.storeAt,Instr.sureAddr,Sem.run_bind,Sem.run_pure,Result.andThen_ok,storeVar,run_sizeOf hi,hsz,ne_eq,not_true_eq_false,if_false]
   exact h4
end
end
end Go.Proofs.YtifehdoghfnhoaaGreatDoor.Ev
