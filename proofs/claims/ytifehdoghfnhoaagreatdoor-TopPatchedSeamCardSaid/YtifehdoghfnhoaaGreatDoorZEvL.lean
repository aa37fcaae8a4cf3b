/- Closed calls are reckoned by the kernel: operations and calls in a frame; a region that draws no order. -/
import Derived.Test.YtifehdoghfnhoaaGreatDoorZEvK
import Derived.IntWalk
namespace Go.Proofs.YtifehdoghfnhoaaGreatDoor.Ev
noncomputable section
open Go.RowKit Go.Shelf
def liveN(H:Hp)(n:Nat):Bool:=match H n with
 |some _=>true
 |none=>false
theorem liveN_ne{H:Hp}{n:Nat}(h:liveN H n=true):H n≠none:=λe=>by unfold liveN at h;rw[e]at h;cases h
theorem liveN_no{H:Hp}{n:Nat}(h:liveN H n=false):H n=none:=by
 unfold liveN at h
 cases hx:H n with
 |none=>rfl
 |some o=>rw[hx]at h;cases h
def effB(H:Hp)(k:Nat)(v:AV):HEff->Option Rs
 | .no=>some ⟨v,[],k⟩
 | .new o=>some ⟨v,[(k,some o)],k+1⟩
 | .wr n o=>bif liveN H n then some ⟨v,[(n,some o)],k⟩else none
 | .app n o=>bif liveN H n then some ⟨v,[(k,some o),(n,none)],k+1⟩else none
 | .hide n=>bif liveN H n then some ⟨v,[(n,none)],k⟩else none
theorem touch_nil(H:Hp)(k k':Nat):Touch H [] k k':=λ_ h=>absurd rfl h
theorem effB_is{H:Hp}{k:Nat}{v:AV}{e:HEff}{r:Rs}(h:effB H k v e=some r):r=⟨v,e.dl k,e.next k⟩/\k<=r.k/\Touch H r.d k r.k:=by
 cases e with
 |no=>cases h;exact⟨rfl,Nat.le_refl _,touch_nil _ _ _⟩
 |new o=>
  cases h
  refine⟨rfl,Nat.le_succ _,λn hn=>?_⟩
  rw[look_cons]at hn
  by_cases e:n=k
  ·exact .inr ⟨by omega,by show n<k+1;omega⟩
  ·rw[if_neg e]at hn;exact absurd rfl hn
 |wr m o=>
  simp only[effB]at h
  cases hl:liveN H m with
  |false=>rw[hl]at h;cases h
  |true=>
   rw[hl]at h
   cases h
   refine⟨rfl,Nat.le_refl _,λn hn=>?_⟩
   rw[look_cons]at hn
   by_cases e:n=m
   ·exact .inl (e▸liveN_ne hl)
   ·rw[if_neg e]at hn;exact absurd rfl hn
 |hide m=>
  simp only[effB]at h
  cases hl:liveN H m with
  |false=>rw[hl]at h;cases h
  |true=>
   rw[hl]at h
   cases h
   refine⟨rfl,Nat.le_refl _,λn hn=>?_⟩
   rw[look_cons]at hn
   by_cases e:n=m
   ·exact .inl (e▸liveN_ne hl)
   ·rw[if_neg e]at hn;exact absurd rfl hn
 |app m o=>
  simp only[effB]at h
  cases hl:liveN H m with
  |false=>rw[hl]at h;cases h
  |true=>
   rw[hl]at h
   cases h
   refine⟨rfl,Nat.le_succ _,λn hn=>?_⟩
   rw[look_cons]at hn
   by_cases e:n=k
   ·exact .inr ⟨by omega,by show n<k+1;omega⟩
   ·rw[if_neg e,look_cons]at hn
    by_cases e2:n=m
    ·exact .inl (e2▸liveN_ne hl)
    ·rw[if_neg e2]at hn;exact absurd rfl hn
def plainB(P:Program)(A:T AV)(H:Hp)(k:Nat)(o:Oper):Option Rs:=match opA P A H k o with
 |some (v,e)=>effB H k v e
 |none=>none
def argsOf(A:T AV)(c:Call):List AV:=c.args.toList.map (evA A)
def opB(ev:Ev)(P:Program)(A:T AV)(H:Hp)(k:Nat)(o:Oper):Option Rs:=match o.op with
 | .call c=>match c.callee with
   | .value x=>match evA A x with
     | .fn (.func f) l m=>ev (.fn f) (l++argsOf A c++m) H k
     | .lit (.func (.func f) l m)=>ev (.fn f) (l.toList.map .lit++argsOf A c++m.toList.map .lit) H k
     | .yld n=>ev (.yld n) (argsOf A c) H k
     |_=>none
   |_=>plainB P A H k o
 |_=>plainB P A H k o
section
variable{P:Program}{o:Oper}{A:T AV}{H:Hp}{k:Nat}{r:Rs}
theorem OpOk.of_does(hle:k<=r.k)(ht:Touch H r.d k r.k)(hnd:∀c,o.op≠.defer c)(h:∀{N:Nat}{ρ:Rho}{a:Act}{W:World},RelH N ρ H W->Looks ρ A a o->Free ρ k r.k->dsA P o a W (Out N ρ H W k r)):OpOk P o A H k r:=
 ⟨hle,ht,λR n h1 h2 h3 _ _ hK=>wpIn_of_does (fc_lets R n P) hnd (h h1 h2 h3) hK⟩
theorem plain_ok(hP:P=Tryz.prog)(h:plainB P A H k o=some r):OpOk P o A H k r:=by
 unfold plainB at h
 split at h
 ·rename_i v e he
  obtain⟨e1,e2,e3⟩:=effB_is h
  refine OpOk.of_does e2 e3 (λc hc=>?_) (λ{N ρ a W}h1 h2 h3=>?_)
  ·unfold opA at he
   rw[hc]at he
   cases he
  ·have hs:Sound N ρ H k P o a W (v,e):=opA_sound hP h2 h1 (λhx=>h3 k (Nat.le_refl _) (by
    rw[e1]
    show k<e.next k
    have h4:k<=e.next k:=by rw[e1]at e2;exact e2
    have h5:e.next k≠k:=hx
    omega)) he
   unfold Sound at hs
   rw[e1]
   unfold Out
   rw[app_dl]
   exact hs
 ·cases h
theorem call_run{c:Call}{x:Operand}{f:Nat}{l m:Array Value}{a:Act}(ho:o.op=.call c)(hc:c.callee=.value x)(hx:a.eval x=.func (.func f) l m)(W:World):(execOp a.eval o).run P W=(callFunc f (l++c.args.map a.eval++m)).run P W:=by
 simp[execOp,ho,resolve,hc,hx,Deferred.ofValue,invoke]
theorem yield_run{c:Call}{x:Operand}{b:Nat}{a:Act}(ho:o.op=.call c)(hc:c.callee=.value x)(hx:a.eval x=.func (.yield b) #[] #[])(W:World):(execOp a.eval o).run P W=(Instr.yield b (c.args.map a.eval)).run P W:=by
 simp[execOp,ho,resolve,hc,hx,Deferred.ofValue,invoke]
theorem callee_mem{c:Call}{x:Operand}(ho:o.op=.call c)(hc:c.callee=.value x):x∈o.op.operands:=by
 rw[ho];simp[Op.operands,Call.operands,hc]
theorem fn_ok{ev:Ev}(hev:EvOk P ev){c:Call}{x:Operand}(ho:o.op=.call c)(hc:c.callee=.value x){f:Nat}{l m:List AV}(h:ev (.fn f) (l++argsOf A c++m) H k=some r)
 (hx:∀{ρ:Rho}{a:Act},Looks ρ A a o->∃lv mv,RelL ρ l lv/\RelL ρ m mv/\a.eval x=.func (.func f) lv.toArray mv.toArray):OpOk P o A H k r:=by
 have ht:=hev.2 _ _ _ _ _ h
 refine OpOk.of_does ht.le ht.touch (λc' hc'=>by rw[ho]at hc';cases hc') (λ{N ρ a W}h1 h2 h3=>?_)
 obtain⟨lv,mv,e1,e2,e3⟩:=hx h2
 have hargs:=args_rel ho h2
 obtain⟨g1,g2⟩:=ht.does h1 ((e1.append hargs).append e2) h3
 have harr:(lv++c.args.toList.map a.eval++mv).toArray=lv.toArray++c.args.map a.eval++mv.toArray:=by
  apply Array.toList_inj.1
  simp
 unfold dsA
 rw[call_run ho hc e3,<-harr,g1]
 exact g2
theorem opB_ok{ev:Ev}(hev:EvOk P ev)(h:opB ev P A H k o=some r):OpOk P o A H k r:=by
 unfold opB at h
 split at h
 ·rename_i c ho
  split at h
  ·rename_i x hc
   split at h
   ·rename_i f l m hx
    refine fn_ok hev ho hc h (λ{ρ a}h2=>?_)
    have h4:=h2 x (callee_mem ho hc)
    rw[hx]at h4
    exact h4
   ·rename_i f l m hx
    refine fn_ok hev ho hc h (λ{ρ a}h2=>?_)
    have h4:=h2 x (callee_mem ho hc)
    rw[hx]at h4
    exact⟨_,_,RelL.lits _,RelL.lits _,h4⟩
   ·rename_i n hx
    have ht:=hev.2 _ _ _ _ _ h
    refine⟨ht.le,ht.touch,λ{N ρ a W}R j h1 h2 h3 K Q hK=>?_⟩
    have h4:=h2 x (callee_mem ho hc)
    rw[hx]at h4
    obtain⟨b,κ,h5,h6⟩:=h4
    obtain⟨f,tmps,asg,body,g1,g2⟩:=ht.does h1 (args_rel ho h2) h3 b κ h5 R (j-1)
    refine⟨λf _=>fc_fn R f,?_⟩
    rw[Oper.semAt_eq _ _ _ (λc' hc'=>by rw[ho]at hc';cases hc'),yield_run ho hc h6,show c.args.map a.eval=(c.args.toList.map a.eval).toArray from by rw[<-Array.toList_map],g1,Oper.uponIn_round]
    refine⟨(fc_lets R j P).deep,g2.mono (λe W' he=>?_)⟩
    obtain⟨v,rfl,hv⟩:=he
    exact hK v W' hv
   ·cases h
  ·exact plain_ok hev.1 h
 ·exact plain_ok hev.1 h
end
def boolA(want:Bool):AV->Option Bool
 | .lit (.bool b)=>some (bif want then b else !b)
 | .lit _=>some false
 |_=>none
def wantA(l:List Oper)(A:T AV)(o:Oper):Option Bool:=match o.guard with
 |none=>some true
 |some (j,want)=>match l[j]? with
  |none=>some false
  |some oj=>match oj.dst with
   |none=>some false
   |some t=>match A.get t with
    |some a=>boolA want a
    |none=>none
def LooksT(ρ:Rho)(A:T AV)(a:Act)(ops:Array Oper)(o:Oper):Prop:=∀t∈o.looksAt ops,RelV ρ ((A.get t).getD .dead) (a.tmps.getD t undef)
section
variable{ρ:Rho}{A:T AV}{a:Act}{ops:Array Oper}{o:Oper}
theorem LooksT.looks(h:LooksT ρ A a ops o):Looks ρ A a o:=λx hx=>by
 cases x with
 |tmp t=>exact h t (List.mem_append_left _ (List.mem_filterMap.2 ⟨.tmp t,by simpa using hx,rfl⟩))
 |const v=>exact rfl
 |global g=>exact rfl
 |func f=>exact rfl
theorem looksT_of{nt:Nat}(h:RelT ρ A nt a.tmps):LooksT ρ A a ops o:=λt _=>h.2 t
theorem want_is(h:LooksT ρ A a ops o){b:Bool}(hw:wantA ops.toList A o=some b):Region.wanted o (yielded ops a.tmps)=b:=by
 unfold wantA at hw
 unfold Region.wanted
 cases hg:o.guard with
 |none=>rw[hg]at hw;cases hw;rfl
 |some gw=>
  obtain⟨j,want⟩:=gw
  rw[hg]at hw
  simp only at hw ⊢
  unfold yielded
  cases hj:ops.toList[j]? with
  |none=>
   rw[hj]at hw
   cases hw
   have:ops[j]? =none:=by simpa using hj
   simp[this]
  |some oj=>
   rw[hj]at hw
   have hj':ops[j]? =some oj:=by simpa using hj
   cases hd:oj.dst with
   |none=>simp only[hd]at hw;cases hw;simp[hj',hd]
   |some t=>
    simp only[hd]at hw
    have hb:(ops[j]?).bind (·.dst)=some t:=by simp[hj',hd]
    have h1:=h t (List.mem_append_right _ (by simp[hg,hb]))
    rw[hb]
    simp only[Option.bind_some]
    cases hx:a.tmps[t]? with
    |none=>
     have hv:a.tmps.getD t undef=undef:=by rw[Array.getD_eq_getD_getElem?,hx];rfl
     rw[hv]at h1
     have hbf:b=false:=by
      cases hA:A.get t with
      |none=>rw[hA]at hw;cases hw
      |some av=>
       rw[hA]at hw h1
       have hw:boolA want av=some b:=hw
       cases av with
       |lit v=>
        have h1:undef=v:=h1
        subst h1
        cases hw
        rfl
       |_=>cases hw
     rw[hbf]
     rfl
    |some u=>
     have hv:a.tmps.getD t undef=u:=by rw[Array.getD_eq_getD_getElem?,hx];rfl
     rw[hv]at h1
     cases hA:A.get t with
     |none=>
      rw[hA]at hw
      cases hw
     |some av=>
      rw[hA]at hw h1
      have hw:boolA want av=some b:=hw
      cases av with
      |lit v=>
       have h1:u=v:=h1
       subst h1
       cases u with
       |bool x=>cases hw;cases want<;>cases x<;>rfl
       |_=>cases hw;rfl
      |_=>cases hw
end
def opG(ev:Ev)(P:Program)(l:List Oper)(A:T AV)(H:Hp)(k:Nat)(o:Oper):Option Rs:=match wantA l A o with
 |some true=>opB ev P A H k o
 |some false=>some ⟨.lit undef,[],k⟩
 |none=>none
structure GOk(P:Program)(ops:Array Oper)(o:Oper)(A:T AV)(H:Hp)(k:Nat)(r:Rs):Prop where
 le:k<=r.k
 touch:Touch H r.d k r.k
 does:∀{N:Nat}{ρ:Rho}{a:Act}{W:World}(R:Option Nat)(n i:Nat),ops[i]? =some o->RelH N ρ H W->LooksT ρ A a ops o->Free ρ k r.k->∀(K:Act->World->Prop)(Q:Exit->Act->World->Prop),(∀v W',Out N ρ H W k r v W'->K (a.put o.dst v) W')->wpOpIn (Fc R) n P ops Q i K a W
theorem opG_ok{ev:Ev}{P:Program}{ops:Array Oper}{A:T AV}{H:Hp}{k:Nat}{o:Oper}{r:Rs}(hev:EvOk P ev)(h:opG ev P ops.toList A H k o=some r):GOk P ops o A H k r:=by
 unfold opG at h
 split at h
 ·rename_i hw
  have h1:=opB_ok hev h
  refine⟨h1.le,h1.touch,λ{N ρ a W}R n i hi h2 h3 h4 K Q hK=>?_⟩
  unfold wpOpIn
  rw[hi]
  simp only[want_is h3 hw,if_true]
  exact h1.does R n h2 h3.looks h4 K Q hK
 ·rename_i hw
  cases h
  refine⟨Nat.le_refl _,touch_nil _ _ _,λ{N ρ a W}R n i hi h2 h3 h4 K Q hK=>?_⟩
  unfold wpOpIn
  rw[hi]
  simp only[want_is h3 hw,Bool.false_eq_true,if_false]
  exact⟨λf _=>fc_fn R f,hK undef W ⟨ρ,Post.same h2 (brefl W),rfl⟩⟩
 ·cases h
structure Dec where
 f:Ev->T AV->Hp->Nat->Option Rs
def big63:Nat:=9223372036854775808
def binF(op:BinOp)(m n:Nat):Option Value:=match op with
 | .add=>bif Nat.blt (Nat.add m n) big63 then some (.int .i64 (.ofNat (Nat.add m n)))else none
 | .sub=>bif Nat.ble n m&&Nat.blt m big63 then some (.int .i64 (.ofNat (Nat.sub m n)))else none
 | .mul=>bif Nat.blt (Nat.mul m n) big63 then some (.int .i64 (.ofNat (Nat.mul m n)))else none
 | .lss=>some (.bool (Nat.blt m n))
 | .leq=>some (.bool (Nat.ble m n))
 | .gtr=>some (.bool (Nat.blt n m))
 | .geq=>some (.bool (Nat.ble n m))
 | .eql=>some (.bool (Nat.beq m n))
 | .neq=>some (.bool (!(Nat.beq m n)))
 |_=>none
def nth:List AV->Nat->Option AV:=λl=>List.rec (motive:=λ_=>Nat->Option AV) (λ_=>none) (λa _ ih n=>bif Nat.beq n 0 then some a else ih (Nat.pred n)) l
theorem nth_is:∀(l:List AV)(n:Nat),nth l n=l[n]?
 |[],n=>by simp[nth]
 |a::l,0=>rfl
 |a::l,n+1=>(nth_is l n).trans (by simp)
def binD(op:BinOp)(x y:Operand)(els:Dec):Dec:=⟨λev A H k=>match evA A x with
 | .lit (.int .i64 (.ofNat m))=>match evA A y with
   | .lit (.int .i64 (.ofNat n))=>match binF op m n with
     |some v=>some ⟨.lit v,[],k⟩
     |none=>els.f ev A H k
   |_=>els.f ev A H k
 |_=>els.f ev A H k⟩
def loadD(x:Operand)(els:Dec):Dec:=⟨λev A H k=>match evA A x with
 | .ptr n f=>match H n with
   |some (.cells cs _)=>match nth cs f with
    |some v=>some ⟨v,[],k⟩
    |none=>none
   |_=>els.f ev A H k
 |_=>els.f ev A H k⟩
def faddrD(q:Nat)(x:Operand)(els:Dec):Dec:=⟨λev A H k=>match evA A x with
 | .ptr n p=>some ⟨.ptr n (Nat.add p q),[],k⟩
 |_=>els.f ev A H k⟩
def iaddrD(q:Nat)(x y:Operand)(els:Dec):Dec:=⟨λev A H k=>match evA A x with
 | .sl n p l _ _ _=>match evA A y with
   | .lit (.int .i64 (.ofNat i))=>bif Nat.blt i l then some ⟨.ptr n (Nat.add p (Nat.mul i q)),[],k⟩else els.f ev A H k
   |_=>els.f ev A H k
 |_=>els.f ev A H k⟩
def nthV:List Value->Nat->Option Value:=λl=>List.rec (motive:=λ_=>Nat->Option Value) (λ_=>none) (λa _ ih n=>bif Nat.beq n 0 then some a else ih (Nat.pred n)) l
theorem nthV_is:∀(l:List Value)(n:Nat),nthV l n=l[n]?
 |[],n=>by simp[nthV]
 |a::l,0=>rfl
 |a::l,n+1=>(nthV_is l n).trans (by simp)
def extrD(ix:Nat)(x:Operand)(els:Dec):Dec:=⟨λev A H k=>match evA A x with
 | .tup cs=>match nth cs ix with
   |some v=>some ⟨v,[],k⟩
   |none=>none
 | .lit (.tuple vs)=>match nthV vs.toList ix with
   |some v=>some ⟨.lit v,[],k⟩
   |none=>els.f ev A H k
 |_=>els.f ev A H k⟩
def mapA(A:T AV):List Operand->List AV:=λl=>List.rec (motive:=λ_=>List AV) [] (λx _ ih=>evA A x::ih) l
theorem mapA_is(A:T AV):∀l:List Operand,mapA A l=l.map (evA A)
 |[]=>rfl
 |x::l=>congrArg (evA A x:: ·) (mapA_is A l)
def setO(v:AV):List AV->Nat->Option (List AV):=λl=>List.rec (motive:=λ_=>Nat->Option (List AV)) (λ_=>none) (λa l ih n=>bif Nat.beq n 0 then some (v::l)else match ih (Nat.pred n)with
 |some l'=>some (a::l')
 |none=>none) l
theorem setO_is(v:AV):∀(l:List AV)(n:Nat),setO v l n=if n<l.length then some (l.set n v)else none
 |[],n=>by simp[setO]
 |a::l,0=>rfl
 |a::l,n+1=>by
  show(match setO v l n with|some l'=>some (a::l')|none=>none)=_
  rw[setO_is v l n]
  by_cases h:n<l.length
  ·rw[if_pos h,if_pos (by simpa using h)];rfl
  ·rw[if_neg h,if_neg (by simpa using h)]
def one1:AV->Bool
 | .lit (.int _ _)=>true
 | .lit (.bool _)=>true
 | .ptr _ _=>true
 | .sl _ _ _ _ _ _=>true
 |_=>false
def storeD(x y:Operand)(els:Dec):Dec:=⟨λev A H k=>match evA A x with
 | .ptr n f=>match H n with
   |some (.cells cs tt)=>bif one1 (evA A y)then(match setO (evA A y) cs f with
    |some cs'=>some ⟨.lit undef,[(n,some (.cells cs' tt))],k⟩
    |none=>none)else els.f ev A H k
   |_=>els.f ev A H k
 |_=>els.f ev A H k⟩
def pickD(c x y:Operand)(els:Dec):Dec:=⟨λev A H k=>match evA A c with
 | .lit (.bool b)=>some ⟨evA A (bif b then x else y),[],k⟩
 |_=>els.f ev A H k⟩
def nilD(x:Operand)(els:Dec):Dec:=⟨λev A H k=>match evA A x with
 | .ptr n f=>some ⟨.ptr n f,[],k⟩
 |_=>els.f ev A H k⟩
def effD(x:Option (AV×HEff))(H:Hp)(k:Nat):Option Rs:=match x with
 |some (v,e)=>effB H k v e
 |none=>none
def dec1(P:Program)(o:Oper)(els:Dec):Dec:=match o.op with
 | .move x=>⟨λ_ A _ k=>some ⟨evA A x,[],k⟩⟩
 | .assign x=>⟨λ_ A _ k=>some ⟨evA A x,[],k⟩⟩
 | .binOp op t x y _=>binD op x y ⟨λ_ A H k=>effD (nilEqA P A o op t x y) H k⟩
 | .unOp _ _ _=>⟨λ_ A H k=>effD (litA P A o) H k⟩
 | .convert _ _ _=>⟨λ_ A H k=>effD (litA P A o) H k⟩
 | .load t x=>match isAggT P t with
   |some false=>loadD x els
   |_=>els
 | .store t x y=>match P.info? t with
   |some i=>bif Nat.beq i.size 1 then storeD x y els else els
   |none=>els
 | .alloc t=>match P.info? t with
   |some i=>match i.zero with
    |some z=>⟨λ_ _ _ k=>some ⟨.ptr k 0,[(k,some (.cells (z.cells.toList.map .lit) t))],k+1⟩⟩
    |none=>els
   |none=>els
 | .box t x=>⟨λ_ A _ k=>bif (evA A x).alive then some ⟨.ptr k 0,[(k,some (.cells (evA A x).cells t))],k+1⟩else none⟩
 | .pick c x y=>pickD c x y els
 | .nilCheck x=>nilD x els
 | .fieldAddr s x f=>match fieldAddrA P s f with
   |some q=>faddrD q x els
   |none=>els
 | .indexAddr t x y=>match indexSl P t with
   |some q=>iaddrD q x y els
   |none=>els
 | .extract x ix=>extrD ix x els
 | .build t ps=>⟨λ_ A H k=>effD (noEff (buildA P t (partsA A ps.toList))) H k⟩
 | .call c=>match c.callee with
   | .value (.func f)=>⟨λev A H k=>ev (.fn f) (mapA A c.args.toList) H k⟩
   | .builtin b=>⟨λ_ A H k=>effD (builtinA P A H k o.type c b) H k⟩
   |_=>els
 |_=>els
structure Grd where
 f:T AV->Option Bool
def grd(l:List Oper)(j:Nat)(want:Bool):Grd:=match l[j]? with
 |none=>⟨λ_=>some false⟩
 |some oj=>match oj.dst with
  |none=>⟨λ_=>some false⟩
  |some t=>⟨λA=>match A.get t with
   |some a=>boolA want a
   |none=>none⟩
def whenD(g:Grd)(d:Dec):Dec:=⟨λev A H k=>match g.f A with
 |some true=>d.f ev A H k
 |some false=>some ⟨.lit undef,[],k⟩
 |none=>none⟩
def dec(P:Program)(l:List Oper)(o:Oper):Dec:=match o.guard with
 |some (j,want)=>whenD (grd l j want) (dec1 P o ⟨λev A H k=>opB ev P A H k o⟩)
 |none=>dec1 P o ⟨λev A H k=>opB ev P A H k o⟩
section
variable{ev:Ev}{P:Program}{l:List Oper}{A:T AV}{H:Hp}{k:Nat}{o:Oper}
theorem opB_plain(hc:∀c,o.op≠.call c):opB ev P A H k o=plainB P A H k o:=by
 unfold opB
 split
 ·rename_i c ho;exact absurd ho (hc c)
 ·rfl
theorem plain_of{x:Option (AV×HEff)}(h:opA P A H k o=x):plainB P A H k o=effD x H k:=by unfold plainB effD;rw[h]
theorem blt_is(m n:Nat):Nat.blt m n=decide (m<n):=by rw[Bool.eq_iff_iff];simp[Nat.blt_eq]
theorem ble_is(m n:Nat):Nat.ble m n=decide (m<=n):=by rw[Bool.eq_iff_iff];simp[Nat.ble_eq]
theorem beq_is(m n:Nat):Nat.beq m n=decide (m=n):=by rw[Bool.eq_iff_iff];simp[Nat.beq_eq]
theorem ieq(m n:Nat):((m:Int)==(n:Int))=decide (m=n):=by rw[Bool.eq_iff_iff];simp;omega
theorem binF_is{op:BinOp}{m n:Nat}{v:Value}(h:binF op m n=some v)(t:TypeId)(x y:Operand):(do eqGuard op t x y (.int .i64 (.ofNat m)) (.int .i64 (.ofNat n));binOp op t (.int .i64 (.ofNat m)) (.int .i64 (.ofNat n)))=(pure v:Sem Value):=by
 have hbig:big63=9223372036854775808:=rfl
 cases op with
 |add=>
  simp only[binF]at h
  cases hb:Nat.blt (Nat.add m n) big63 with
  |false=>rw[hb]at h;cases h
  |true=>
   rw[hb]at h
   cases h
   have h1:m+n<big63:=Nat.le_of_ble_eq_true hb
   have e:IntKind.i64.wrap ((m:Int)+(n:Int))=(m:Int)+(n:Int):=IntWalk.i64_in ((m:Int)+(n:Int)) (by omega)
   simp[eqGuard,binOp,Op.intArith,e]
 |mul=>
  simp only[binF]at h
  cases hb:Nat.blt (Nat.mul m n) big63 with
  |false=>rw[hb]at h;cases h
  |true=>
   rw[hb]at h
   cases h
   have h1:m*n<big63:=Nat.le_of_ble_eq_true hb
   have e2:((m*n:Nat):Int)=(m:Int)*(n:Int):=Int.natCast_mul m n
   have e:IntKind.i64.wrap ((m:Int)*(n:Int))=(m:Int)*(n:Int):=IntWalk.i64_in ((m:Int)*(n:Int)) (by rw[<-e2];omega)
   simp[eqGuard,binOp,Op.intArith,e]
 |sub=>
  simp only[binF]at h
  cases hb:(Nat.ble n m&&Nat.blt m big63)with
  |false=>rw[hb]at h;cases h
  |true=>
   rw[hb]at h
   cases h
   rw[Bool.and_eq_true]at hb
   have h1:=Nat.le_of_ble_eq_true hb.1
   have h2:m<big63:=Nat.le_of_ble_eq_true hb.2
   have e:IntKind.i64.wrap ((m:Int)-(n:Int))=((m-n:Nat):Int):=by
    rw[IntWalk.i64_in ((m:Int)-(n:Int)) (by omega)]
    omega
   simp[eqGuard,binOp,Op.intArith,e]
 |lss=>cases h;simp[eqGuard,binOp,Op.intCmp,blt_is]
 |leq=>cases h;simp[eqGuard,binOp,Op.intCmp,ble_is]
 |gtr=>cases h;simp[eqGuard,binOp,Op.intCmp,blt_is]
 |geq=>cases h;simp[eqGuard,binOp,Op.intCmp,ble_is]
 |eql=>cases h;simp[eqGuard,binOp,Op.intCmp,beq_is,ieq]
 |neq=>cases h;simp[eqGuard,binOp,Op.intCmp,beq_is,ieq,bne]
 |_=>cases h
theorem nilEqA_lit{op:BinOp}{t:TypeId}{x y:Operand}{v:Value}(hx:evA A x=.lit v):nilEqA P A o op t x y=litA P A o:=by
 unfold nilEqA nilV
 rw[hx]
 rfl
theorem bin_dec{op:BinOp}{t t':TypeId}{x y:Operand}{els:Dec}(ho:o.op=.binOp op t x y t')(he:els.f ev A H k=opB ev P A H k o):(binD op x y els).f ev A H k=opB ev P A H k o:=by
 unfold binD
 simp only
 split
 ·rename_i m hx
  split
  ·rename_i n hy
   split
   ·rename_i v hv
    rw[opB_plain (λc hc=>by rw[ho]at hc;cases hc)]
    have h1:execOp (litEval A) o=pure (.value v):=by
     have h2:=binF_is hv t x y
     have e1:litEval A x=.int .i64 (.ofNat m):=by unfold litEval;rw[hx]
     have e2:litEval A y=.int .i64 (.ofNat n):=by unfold litEval;rw[hy]
     unfold execOp
     rw[ho]
     simp only[e1,e2,h2]
     rfl
    have h3:allLit A o.op.operands.toList=true:=by rw[ho];simp[allLit,Op.operands,hx,hy]
    have h4:plainOp o.op=true:=by rw[ho];rfl
    have h5:litA P A o=some (.lit v,.no):=by
     unfold litA
     rw[h3,h4,h1]
     rfl
    unfold plainB opA
    rw[ho]
    simp only[nilEqA_lit hx,h5]
    rfl
   ·exact he
  ·exact he
 ·exact he
theorem load_dec{t:TypeId}{x:Operand}{els:Dec}(ho:o.op=.load t x)(ht:isAggT P t=some false)(he:els.f ev A H k=opB ev P A H k o):(loadD x els).f ev A H k=opB ev P A H k o:=by
 unfold loadD
 simp only
 split
 ·rename_i n f hx
  split
  ·rename_i cs tt hn
   rw[opB_plain (λc hc=>by rw[ho]at hc;cases hc),nth_is]
   unfold plainB opA
   rw[ho]
   simp only[hx,hn,loadA,ht]
   cases cs[f]? <;>rfl
  ·exact he
 ·exact he
theorem faddr_dec{s:TypeId}{x:Operand}{f q:Nat}{els:Dec}(ho:o.op=.fieldAddr s x f)(ht:fieldAddrA P s f=some q)(he:els.f ev A H k=opB ev P A H k o):(faddrD q x els).f ev A H k=opB ev P A H k o:=by
 unfold faddrD
 simp only
 split
 ·rename_i n p hx
  rw[opB_plain (λc hc=>by rw[ho]at hc;cases hc)]
  unfold plainB opA
  rw[ho]
  simp only[hx,ht]
  rfl
 ·exact he
theorem iaddr_dec{t:TypeId}{x y:Operand}{q:Nat}{els:Dec}(ho:o.op=.indexAddr t x y)(ht:indexSl P t=some q)(he:els.f ev A H k=opB ev P A H k o):(iaddrD q x y els).f ev A H k=opB ev P A H k o:=by
 unfold iaddrD
 simp only
 split
 ·rename_i n p m lb es ex hx
  split
  ·rename_i i hy
   cases hb:Nat.blt i m with
   |false=>exact he
   |true=>
    rw[opB_plain (λc hc=>by rw[ho]at hc;cases hc)]
    unfold plainB opA
    rw[ho]
    have h1:(evA A y).nat?=some i:=by rw[hy];rfl
    simp only[hx,h1,ht,hb,cond_true]
    rfl
  ·exact he
 ·exact he
theorem extr_dec{ix:Nat}{x:Operand}{els:Dec}(ho:o.op=.extract x ix)(he:els.f ev A H k=opB ev P A H k o):(extrD ix x els).f ev A H k=opB ev P A H k o:=by
 unfold extrD
 simp only
 split
 ·rename_i cs hx
  rw[opB_plain (λc hc=>by rw[ho]at hc;cases hc),nth_is]
  unfold plainB opA
  rw[ho]
  simp only[hx]
  cases cs[ix]? <;>rfl
 ·rename_i vs hx
  split
  ·rename_i v hv
   rw[nthV_is]at hv
   have hv:vs[ix]? =some v:=by simpa using hv
   rw[opB_plain (λc hc=>by rw[ho]at hc;cases hc)]
   have e1:litEval A x=.tuple vs:=by unfold litEval;rw[hx]
   have h1:execOp (litEval A) o=pure (.value v):=by
    unfold execOp
    rw[ho]
    simp[e1,Instr.extract,hv]
   have h3:allLit A o.op.operands.toList=true:=by rw[ho];simp[allLit,Op.operands,hx]
   have h4:plainOp o.op=true:=by rw[ho];rfl
   have h5:litA P A o=some (.lit v,.no):=by
    unfold litA
    rw[h3,h4,h1]
    rfl
   unfold plainB opA
   rw[ho]
   simp only[hx,h5]
   rfl
  ·exact he
 ·exact he
theorem splice_one{cs:List AV}{f:Nat}{v:AV}(h:f<cs.length):spliceA cs f [v]=cs.set f v:=by
 unfold spliceA
 rw[List.set_eq_take_append_cons_drop,if_pos h]
 simp
theorem one1_is{v:AV}(h:one1 v=true):v.cells=[v]/\v.one=true/\v.alive=true:=by
 cases v with
 |lit x=>cases x<;>first|(cases h;done)|exact⟨rfl,rfl,rfl⟩
 |ptr n o=>exact⟨rfl,rfl,rfl⟩
 |sl n o l lb es ex=>exact⟨rfl,rfl,rfl⟩
 |_=>cases h
theorem store_dec{t:TypeId}{x y:Operand}{i:TypeInfo}{els:Dec}(ho:o.op=.store t x y)(hi:P.info? t=some i)(h1:Nat.beq i.size 1=true)(he:els.f ev A H k=opB ev P A H k o):(storeD x y els).f ev A H k=opB ev P A H k o:=by
 unfold storeD
 simp only
 split
 ·rename_i n f hx
  split
  ·rename_i cs tt hn
   cases ho1:one1 (evA A y)with
   |false=>exact he
   |true=>
    obtain⟨e1,e2,e3⟩:=one1_is ho1
    rw[opB_plain (λc hc=>by rw[ho]at hc;cases hc),cond_true,setO_is]
    have hsz:=Nat.eq_of_beq_eq_true h1
    have hl:liveN H n=true:=by unfold liveN;rw[hn]
    unfold plainB opA
    rw[ho]
    simp only[hx,hn,storeA,hi,e1,hsz,List.length_cons,List.length_nil,List.all_cons,List.all_nil,e2,e3]
    by_cases hf:f<cs.length
    ·have hb:Nat.ble (f+(0+1)) cs.length=true:=Nat.ble_eq_true_of_le (by omega)
     rw[if_pos hf,hb]
     simp only[splice_one hf]
     show _=effB H k _ _
     unfold effB
     simp only[hl]
     rfl
    ·have hb:Nat.ble (f+(0+1)) cs.length=false:=by
      cases hb:Nat.ble (f+(0+1)) cs.length with
      |false=>rfl
      |true=>have:=Nat.le_of_ble_eq_true hb;omega
     rw[if_neg hf,hb]
     rfl
  ·exact he
 ·exact he
theorem pick_dec{c x y:Operand}{els:Dec}(ho:o.op=.pick c x y)(he:els.f ev A H k=opB ev P A H k o):(pickD c x y els).f ev A H k=opB ev P A H k o:=by
 unfold pickD
 simp only
 split
 ·rename_i b hc
  rw[opB_plain (λc hc=>by rw[ho]at hc;cases hc)]
  unfold plainB opA
  rw[ho]
  simp only[hc]
  cases b<;>rfl
 ·exact he
theorem nil_dec{x:Operand}{els:Dec}(ho:o.op=.nilCheck x)(he:els.f ev A H k=opB ev P A H k o):(nilD x els).f ev A H k=opB ev P A H k o:=by
 unfold nilD
 simp only
 split
 ·rename_i n f hc
  rw[opB_plain (λc hc=>by rw[ho]at hc;cases hc)]
  unfold plainB opA
  rw[ho]
  simp only[hc]
  rfl
 ·exact he
theorem lit_dec{X:Option (AV×HEff)}(hop:opA P A H k o=X)(hc:∀c,o.op≠.call c):effD X H k=opB ev P A H k o:=by
 rw[opB_plain hc,plain_of hop]
theorem dec1_is{els:Dec}(he:els.f ev A H k=opB ev P A H k o):(dec1 P o els).f ev A H k=opB ev P A H k o:=by
 unfold dec1
 split
 ·rename_i x ho
  rw[opB_plain (λc hc=>by rw[ho]at hc;cases hc)]
  unfold plainB opA
  rw[ho]
  rfl
 ·rename_i x ho
  rw[opB_plain (λc hc=>by rw[ho]at hc;cases hc)]
  unfold plainB opA
  rw[ho]
  rfl
 ·rename_i ho
  exact bin_dec ho (lit_dec (by unfold opA;rw[ho]) (λc hc=>by rw[ho]at hc;cases hc))
 ·rename_i ho
  exact lit_dec (by unfold opA;rw[ho]) (λc hc=>by rw[ho]at hc;cases hc)
 ·rename_i ho
  exact lit_dec (by unfold opA;rw[ho]) (λc hc=>by rw[ho]at hc;cases hc)
 ·rename_i t x ho
  split
  ·rename_i ht;exact load_dec ho ht he
  ·exact he
 ·rename_i t x y ho
  split
  ·rename_i i hi
   cases h1:Nat.beq i.size 1 with
   |true=>exact store_dec ho hi h1 he
   |false=>exact he
  ·exact he
 ·rename_i t ho
  split
  ·rename_i i hi
   split
   ·rename_i z hz
    rw[opB_plain (λc hc=>by rw[ho]at hc;cases hc)]
    unfold plainB opA
    rw[ho]
    simp only[hi,hz]
    rfl
   ·exact he
  ·exact he
 ·rename_i t x ho
  rw[opB_plain (λc hc=>by rw[ho]at hc;cases hc)]
  unfold plainB opA
  rw[ho]
  simp only
  cases(evA A x).alive<;>rfl
 ·rename_i ho;exact pick_dec ho he
 ·rename_i ho;exact nil_dec ho he
 ·rename_i ho
  split
  ·rename_i ht;exact faddr_dec ho ht he
  ·exact he
 ·rename_i ho
  split
  ·rename_i ht;exact iaddr_dec ho ht he
  ·exact he
 ·rename_i ho;exact extr_dec ho he
 ·rename_i t ps ho
  rw[opB_plain (λc hc=>by rw[ho]at hc;cases hc)]
  exact(plain_of (by unfold opA;rw[ho])).symm
 ·rename_i c ho
  split
  ·rename_i f hc
   unfold opB
   rw[ho]
   simp only[hc,evA]
   rw[mapA_is]
   simp[argsOf]
  ·rename_i b hc
   unfold opB
   rw[ho]
   simp only[hc]
   exact(plain_of (by unfold opA;rw[ho];simp only[hc])).symm
  ·exact he
 ·exact he
theorem dec_is:(dec P l o).f ev A H k=opG ev P l A H k o:=by
 unfold dec opG
 split
 ·rename_i j want hg
  have hw:(grd l j want).f A=wantA l A o:=by
   unfold grd wantA
   rw[hg]
   simp only
   cases l[j]? with
   |none=>rfl
   |some oj=>
    simp only
    cases oj.dst with
    |none=>rfl
    |some t=>rfl
  unfold whenD
  simp only[hw,dec1_is (P:=P) (o:=o) (els:=⟨λev A H k=>opB ev P A H k o⟩) (ev:=ev) (A:=A) (H:=H) (k:=k) rfl]
 ·rename_i hg
  unfold wantA
  rw[hg]
  exact dec1_is rfl
end
structure St where
 A:T AV
 Do:Dl
 Dn:T AO
 k:Nat
 df:List Nat
def St.hp(k0:Nat)(H0:Hp)(s:St):Hp:=λn=>bif Nat.ble k0 n then s.Dn.get n else ovr s.Do H0 n
def setL(n:Nat)(x:Option AO):Dl->Dl
 |[]=>[(n,x)]
 |(m,y)::l=>bif Nat.beq m n then(m,x)::l else(m,y)::setL n x l
theorem look_setL(n:Nat)(x:Option AO)(l:Dl)(m:Nat):look (setL n x l) m=if m=n then some x else look l m:=by
 induction l with
 |nil=>exact look_cons n x [] m
 |cons p l ih=>
  obtain⟨j,y⟩:=p
  show look (bif Nat.beq j n then(j,x)::l else(j,y)::setL n x l) m=_
  by_cases e:j=n
  ·subst e
   rw[T.beq_yes rfl,cond_true,look_cons,look_cons]
   by_cases e2:m=j
   ·rw[if_pos e2,if_pos e2]
   ·rw[if_neg e2,if_neg e2,if_neg e2]
  ·rw[T.beq_no e,cond_false,look_cons,ih,look_cons]
   by_cases e2:m=j
   ·rw[if_pos e2,if_pos e2,if_neg (λh=>e (e2.symm.trans h))]
   ·rw[if_neg e2,if_neg e2]
def St.set1(k0 n:Nat)(x:Option AO)(s:St):St:=bif Nat.ble k0 n then{s with Dn:=s.Dn.set n x}else{s with Do:=setL n x s.Do}
def St.putD(k0:Nat):Dl->St->St
 |[],s=>s
 |(n,x)::l,s=>(St.putD k0 l s).set1 k0 n x
theorem hp_set1(k0:Nat)(H0:Hp)(n:Nat)(x:Option AO)(s:St):(s.set1 k0 n x).hp k0 H0=upH (s.hp k0 H0) n x:=by
 funext m
 unfold St.set1 St.hp upH
 cases hn:Nat.ble k0 n with
 |true=>
  simp only[cond_true,T.get_set]
  by_cases e:m=n
  ·subst e;rw[hn,if_pos rfl,if_pos rfl];rfl
  ·rw[if_neg e,if_neg e]
 |false=>
  simp only[cond_false]
  by_cases e:m=n
  ·subst e
   rw[hn,if_pos rfl]
   show ovr (setL m x s.Do) H0 m=x
   unfold ovr
   rw[look_setL,if_pos rfl]
  ·rw[if_neg e]
   cases Nat.ble k0 m with
   |true=>rfl
   |false=>
    show ovr (setL n x s.Do) H0 m=ovr s.Do H0 m
    unfold ovr
    rw[look_setL,if_neg e]
theorem hp_putD(k0:Nat)(H0:Hp)(d:Dl)(s:St):(St.putD k0 d s).hp k0 H0=ovr d (s.hp k0 H0):=by
 induction d with
 |nil=>rfl
 |cons p d ih=>
  obtain⟨n,x⟩:=p
  rw[app_cons,<-ih]
  exact hp_set1 k0 H0 n x _
theorem set1_A(k0 n:Nat)(x:Option AO)(s:St):(s.set1 k0 n x).A=s.A/\(s.set1 k0 n x).k=s.k/\(s.set1 k0 n x).df=s.df:=by
 unfold St.set1
 cases Nat.ble k0 n<;>exact⟨rfl,rfl,rfl⟩
theorem putD_A(k0:Nat)(d:Dl)(s:St):(St.putD k0 d s).A=s.A/\(St.putD k0 d s).k=s.k/\(St.putD k0 d s).df=s.df:=by
 induction d with
 |nil=>exact⟨rfl,rfl,rfl⟩
 |cons p d ih=>
  obtain⟨h1,h2,h3⟩:=set1_A k0 p.1 p.2 (St.putD k0 d s)
  exact⟨h1.trans ih.1,h2.trans ih.2.1,h3.trans ih.2.2⟩
def dstA(nt:Nat)(A:T AV)(d:Option Tmp)(v:AV):Option (T AV):=match d with
 |none=>some A
 |some t=>bif Nat.blt t nt then some (A.set t (some v))else none
theorem dstA_rel{ρ:Rho}{nt:Nat}{A A':T AV}{d:Option Tmp}{av:AV}{v:Value}{a:Act}(h:dstA nt A d av=some A')(hr:RelT ρ A nt a.tmps)(hv:RelV ρ av v):RelT ρ A' nt (a.put d v).tmps:=by
 cases d with
 |none=>cases h;exact hr
 |some t=>
  simp only[dstA]at h
  cases hb:Nat.blt t nt with
  |false=>rw[hb]at h;cases h
  |true=>
   rw[hb]at h
   cases h
   exact hr.set (Nat.le_of_ble_eq_true hb) hv
def St.put(k0 nt:Nat)(s:St)(d:Option Tmp)(r:Rs):Option St:=match dstA nt s.A d r.v with
 |some A=>some {St.putD k0 r.d s with A:=A,k:=r.k}
 |none=>none
theorem put_is{k0 nt:Nat}{s s':St}{d:Option Tmp}{r:Rs}(h:s.put k0 nt d r=some s'):dstA nt s.A d r.v=some s'.A/\s'.k=r.k/\s'.df=s.df/\∀H0,s'.hp k0 H0=ovr r.d (s.hp k0 H0):=by
 unfold St.put at h
 cases hd:dstA nt s.A d r.v with
 |none=>rw[hd]at h;cases h
 |some A=>
  rw[hd]at h
  cases h
  exact⟨rfl,rfl,(putD_A k0 r.d s).2.2,λH0=>hp_putD k0 H0 r.d s⟩
def DfR(ρ:Rho):List Nat->List Deferred->Prop
 |[],ds=>ds=[]
 |n::l,ds=>∃b κ ds',ρ n=some (b,κ)/\ds={target:=.collected b,args:=#[]}::ds'/\DfR ρ l ds'
theorem DfR.mono{ρ ρ':Rho}(h:ρ.le ρ'):∀{l:List Nat}{ds:List Deferred},DfR ρ l ds->DfR ρ' l ds
 |[],_,hd=>hd
 |_::_,_,⟨b,κ,ds',h1,h2,h3⟩=>⟨b,κ,ds',h _ _ h1,h2,h3.mono h⟩
def Ends(N k0 nt:Nat)(H0:Hp)(ρ:Rho)(s:St)(W:World)(s':St)(a':Act)(W':World):Prop:=
 ∃ρ',Post N ρ (s.hp k0 H0) W (s'.hp k0 H0) s.k s'.k ρ' W'/\RelT ρ' s'.A nt a'.tmps/\DfR ρ' s'.df a'.defers
structure StR(N k0 nt:Nat)(H0:Hp)(ρ:Rho)(s:St)(a:Act)(W:World):Prop where
 heap:RelH N ρ (s.hp k0 H0) W
 tmps:RelT ρ s.A nt a.tmps
 defers:DfR ρ s.df a.defers
section
variable{N k0 nt:Nat}{H0:Hp}{ρ:Rho}{P:Program}{s s' s'':St}{a:Act}{W:World}
theorem put_df(a:Act)(d:Option Tmp)(v:Value):(a.put d v).defers=a.defers:=by cases d<;>rfl
theorem put_ends{o:Oper}{r:Rs}{v:Value}{W':World}(hs:StR N k0 nt H0 ρ s a W)(hp:s.put k0 nt o.dst r=some s')(ho:Out N ρ (s.hp k0 H0) W s.k r v W'):Ends N k0 nt H0 ρ s W s' (a.put o.dst v) W':=by
 obtain⟨h1,h2,h3,h4⟩:=put_is hp
 obtain⟨ρ',p1,p2⟩:=ho
 refine⟨ρ',by rw[h4,h2];exact p1,dstA_rel h1 (hs.tmps.mono p1.le) p2,?_⟩
 rw[h3,put_df]
 exact hs.defers.mono p1.le
theorem op_step{ev:Ev}{ops:Array Oper}{o:Oper}{r:Rs}{i:Nat}(hev:EvOk P ev)(h:opG ev P ops.toList s.A (s.hp k0 H0) s.k o=some r)(hp:s.put k0 nt o.dst r=some s')(hi:ops[i]? =some o):
 s.k<=s'.k/\∀(R:Option Nat)(n:Nat),StR N k0 nt H0 ρ s a W->Free ρ s.k s'.k->∀(K:Act->World->Prop)(Q:Exit->Act->World->Prop),(∀a' W',Ends N k0 nt H0 ρ s W s' a' W'->K a' W')->wpOpIn (Fc R) n P ops Q i K a W:=by
 have h1:=opG_ok hev h
 obtain⟨h2,h3,h4,h5⟩:=put_is hp
 refine⟨by rw[h3];exact h1.le,λR n hs hf K Q hK=>?_⟩
 exact h1.does R n i hi hs.heap (looksT_of hs.tmps) (by rw[<-h3];exact hf) K Q (λv W' hv=>hK _ _ (put_ends hs hp hv))
theorem Ends.refl(hs:StR N k0 nt H0 ρ s a W):Ends N k0 nt H0 ρ s W s a W:=⟨ρ,Post.same hs.heap (brefl W),hs.tmps,hs.defers⟩
theorem Ends.st{a':Act}{W':World}(h:Ends N k0 nt H0 ρ s W s' a' W')(hk:s.k<=s'.k){K:Nat}(hf:Free ρ s.k K):∃ρ',StR N k0 nt H0 ρ' s' a' W'/\Free ρ' s'.k K/\∀s'' a'' W'',s'.k<=s''.k->Ends N k0 nt H0 ρ' s' W' s'' a'' W''->Ends N k0 nt H0 ρ s W s'' a'' W'':=by
 obtain⟨ρ',h1,h2,h3⟩:=h
 refine⟨ρ',⟨h1.heap,h2,h3⟩,hf.post h1 hk,λs'' a'' W'' hk'⟨ρ'',g1,g2,g3⟩=>⟨ρ'',h1.trans g1 hk hk',g2,g3⟩⟩
end
structure Dop where
 d:Dec
 dst:Option Tmp
 an:Nat
def hdN:List Nat->Nat
 |[]=>0
 |n::_=>n
def tlN{α:Type}:List α->List α
 |[]=>[]
 |_::l=>l
def dops(P:Program)(l0:List Oper):List Oper->List Nat->List Dop
 |[],_=>[]
 |o::os,ans=>⟨dec P l0 o,o.dst,hdN ans⟩::dops P l0 os (tlN ans)
def hpOf(k0:Nat)(H0:Hp)(Do:Dl)(Dn:T AO):Hp:=λn=>bif Nat.ble k0 n then Dn.get n else ovr Do H0 n
def evSeq(ev:Ev)(k0:Nat)(H0:Hp)(nt:Nat)(ds:List Dop):St->Option St:=List.rec (motive:=λ_=>St->Option St) (λs=>some s)
 (λo _ ih s=>match s with
   |⟨A,Do,Dn,k,df⟩=>match o.d.f ev A (hpOf k0 H0 Do Dn) k with
    |some ⟨v,d,k'⟩=>match dstA nt A o.dst v with
     |some A'=>match d with
      |[]=>ih ⟨A',Do,Dn,k',df⟩
      |p::d'=>ih {St.putD k0 (p::d') ⟨A,Do,Dn,k,df⟩with A:=A',k:=k'}
     |none=>none
    |none=>none) ds
theorem evSeq_cons(ev:Ev)(k0:Nat)(H0:Hp)(nt:Nat)(o:Dop)(os:List Dop)(s:St):evSeq ev k0 H0 nt (o::os) s=match o.d.f ev s.A (s.hp k0 H0) s.k with
 |some r=>match s.put k0 nt o.dst r with
  |some s'=>evSeq ev k0 H0 nt os s'
  |none=>none
 |none=>none:=by
 obtain⟨A,Do,Dn,k,df⟩:=s
 show(match o.d.f ev A (hpOf k0 H0 Do Dn) k with
  |some ⟨v,d,k'⟩=>match dstA nt A o.dst v with
   |some A'=>match d with
    |[]=>evSeq ev k0 H0 nt os ⟨A',Do,Dn,k',df⟩
    |p::d'=>evSeq ev k0 H0 nt os {St.putD k0 (p::d') ⟨A,Do,Dn,k,df⟩with A:=A',k:=k'}
   |none=>none
  |none=>none)=_
 show _=match o.d.f ev A (hpOf k0 H0 Do Dn) k with
  |some r=>match St.put k0 nt ⟨A,Do,Dn,k,df⟩ o.dst r with
   |some s'=>evSeq ev k0 H0 nt os s'
   |none=>none
  |none=>none
 cases o.d.f ev A (hpOf k0 H0 Do Dn) k with
 |none=>rfl
 |some r=>
  obtain⟨v,d,k'⟩:=r
  simp only[St.put]
  cases dstA nt A o.dst v with
  |none=>rfl
  |some A'=>cases d<;>rfl
theorem seq_ok{ev:Ev}{P:Program}{ops:Array Oper}{k0 nt:Nat}{H0:Hp}(hev:EvOk P ev):∀(os:List Oper)(ans:List Nat)(i:Nat)(s s':St),ops.toList.drop i=os->evSeq ev k0 H0 nt (dops P ops.toList os ans) s=some s'->
 s.k<=s'.k/\∀{N:Nat}{ρ:Rho}{a:Act}{W:World}(R:Option Nat)(n:Nat),StR N k0 nt H0 ρ s a W->Free ρ s.k s'.k->∀(Q:Exit->Act->World->Prop),(∀a' W',Ends N k0 nt H0 ρ s W s' a' W'->Q .normal a' W')->wpOpsIn (Fc R) n P ops Q (List.range' i os.length) a W
 |[],ans,i,s,s',hd,h=>by
  cases h
  exact⟨Nat.le_refl _,λR n hs _ Q hQ=>hQ _ _ (Ends.refl hs)⟩
 |o::os,ans,i,s,s',hd,h=>by
  simp only[dops,evSeq_cons,dec_is]at h
  split at h
  ·rename_i r hr
   split at h
   ·rename_i s1 hp
    have hi:ops[i]? =some o:=by
     have:(ops.toList.drop i)[0]? =some o:=by rw[hd];rfl
     simpa using this
    have hd':ops.toList.drop (i+1)=os:=by rw[<-List.drop_drop,hd];rfl
    obtain⟨h1,h2⟩:=seq_ok hev os (tlN ans) (i+1) s1 s' hd' h
    have h3:=λ{N ρ a W}=>op_step (N:=N) (ρ:=ρ) (a:=a) (W:=W) hev hr hp hi
    have h4:=(h3 (N:=0) (ρ:=λ_=>none) (a:=⟨#[],[]⟩) (W:=default)).1
    refine⟨Nat.le_trans h4 h1,λ{N ρ a W}R n hs hf Q hQ=>?_⟩
    rw[show List.range' i (o::os).length=i::List.range' (i+1) os.length from rfl,wpOpsIn_cons]
    refine h3.2 R n hs (hf.sub (Nat.le_refl _) h1) _ Q (λa' W' he=>?_)
    obtain⟨ρ',g1,g2,g3⟩:=he.st h4 hf
    exact h2 R n g1 g2 Q (λa'' W'' he'=>hQ _ _ (g3 _ _ _ h1 he'))
   ·cases h
  ·cases h
theorem region_ok{ev:Ev}{P:Program}{ops:Array Oper}{ans:List Nat}{k0 nt:Nat}{H0:Hp}(hev:EvOk P ev){s s':St}(h:evSeq ev k0 H0 nt (dops P ops.toList ops.toList ans) s=some s'):
 s.k<=s'.k/\∀{N:Nat}{ρ:Rho}{a:Act}{W:World}(R:Option Nat)(n id:Nat),StR N k0 nt H0 ρ s a W->Free ρ s.k s'.k->∀(Q:Exit->Act->World->Prop),(∀a' W',Ends N k0 nt H0 ρ s W s' a' W'->Q .normal a' W')->(Code.region id ops false).wpIn (Fc R) n P Q a W:=by
 obtain⟨h1,h2⟩:=seq_ok hev ops.toList ans 0 s s' rfl h
 refine⟨h1,λR n id hs hf Q hQ=>wpIn_region ?_⟩
 have:=h2 R n hs hf Q hQ
 rwa[Array.length_toList,<-List.range_eq_range']at this
end
end Go.Proofs.YtifehdoghfnhoaaGreatDoor.Ev
