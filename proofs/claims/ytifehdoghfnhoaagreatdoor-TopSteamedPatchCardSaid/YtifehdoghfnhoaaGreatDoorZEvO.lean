/- Closed calls are reckoned by the kernel: code. -/
import Derived.Test.YtifehdoghfnhoaaGreatDoorZEvN
import Derived.LoopNIn
namespace Go.Proofs.YtifehdoghfnhoaaGreatDoor.Ev
noncomputable section
open Go.RowKit Go.Shelf
theorem wpIn_scope{F:Fence}{n:Nat}{P:Program}{Q:Exit->Act->World->Prop}{a:Act}{w:World}{c:Code}(h:c.wpIn F n P (Exit.noGoto Q) a w):(Code.scope c).wpIn F n P Q a w:=by
 intro b k cs hro hb hr
 have hs:step P (lone (b.atR a (.code (.scope c)::k)) cs w)=.next (lone (b.atR a (.code c::.inScope c::k)) cs w):=step_lone_go (by simp[stepG,stepG.exec,Frame.atR])
 have h0:(lone (b.atR a (.code (.scope c)::k)) cs w).fenced P F:=fenced_calm hb hr rfl
 obtain⟨e,a₁,w₁,hq,harr⟩:=h b (.inScope c::k) cs hro hb hr
 cases e with
 |normal=>
  have hs2:step P (lone (b.atR a₁ (.inScope c::k)) cs w₁)=.next (lone (b.atR a₁ k) cs w₁):=step_lone_go (by simp[stepG,stepG.exec,Frame.atR])
  exact⟨.normal,a₁,w₁,hq,.head h0 hs (StepsIn.trans harr (.one (fenced_calm hb hr rfl) hs2))⟩
 |exit id=>
  have hx:exitTo id (.inScope c::k)=exitTo id k:=by simp[exitTo]
  exact⟨.exit id,a₁,w₁,hq,λk' hk=>.head h0 hs (harr.1 k' (by rw[hx];exact hk)),λhr' hk=>let⟨k₁,h1,h2⟩:=harr.2 hr' (by rw[hx];exact hk);⟨k₁,h1,.head h0 hs h2⟩⟩
 |goto l=>exact hq.elim
 |ret=>exact⟨_,a₁,w₁,hq,.of_steps (.one h0 hs) harr⟩
 |panic ch=>exact⟨_,a₁,w₁,hq,.of_steps (.one h0 hs) harr⟩
 |outgrown=>exact⟨_,a₁,w₁,hq,.of_steps (.one h0 hs) harr⟩
abbrev Rc:=Option (Exit×St)
def evLoop(rec:St->Rc)(m:Nat):St->Rc:=Nat.rec (motive:=λ_=>St->Rc) (λ_=>none) (λ_ ih s=>match rec s with
    |some (.normal,s1)=>ih s1
    |some (e,s1)=>some (e,s1)
    |none=>none) m
theorem evLoop_succ(rec:St->Rc)(m:Nat)(s:St):evLoop rec (m+1) s=match rec s with
 |some (.normal,s1)=>evLoop rec m s1
 |some (e,s1)=>some (e,s1)
 |none=>none:=rfl
def loopFuel:Nat:=1000000
def evRange2(k0:Nat)(H0:Hp)(k:Nat)(df:List Nat)(s2:St):Rc:=match s2.hp k0 H0 (k+1)with
 |some (.loop l)=>match l.st with
  | .busy=>none
  |_=>match l.pd with
   |none=>some (.normal,{St.putD k0 [(k+1,none)] s2 with df:=k::df})
   |some .ret=>some (.ret,{St.putD k0 [(k+1,none)] s2 with df:=k::df})
   |some (.exit id)=>some (.exit id,{St.putD k0 [(k+1,none)] s2 with df:=k::df})
   |_=>none
 |_=>none
def rangeSt(k0 nt:Nat)(ps:Array Tmp)(assign body:Code)(s:St):St:={St.putD k0 [(s.k+1,some (.loop {st:=.ready,pd:=none,tmps:=s.A,nt,ps,assign,body})),(s.k,some .dfr)] s with k:=s.k+2}
def evRange(ev:Ev)(k0:Nat)(H0:Hp)(nt:Nat)(s:St)(f:Nat)(l m:List AV)(ps:Array Tmp)(assign body:Code):Rc:=
 match ev (.fn f) (l++[.yld (s.k+1)]++m) ((rangeSt k0 nt ps assign body s).hp k0 H0) (s.k+2)with
 |some r=>evRange2 k0 H0 s.k s.df {St.putD k0 r.d (rangeSt k0 nt ps assign body s)with k:=r.k}
 |none=>none
def inBlk(id:Nat):Rc->Rc
 |some (.exit id',s)=>bif Nat.beq id' id then some (.normal,s)else some (.exit id',s)
 |some (.normal,s)=>some (.normal,s)
 |some (.ret,s)=>some (.ret,s)
 |_=>none
def inScp:Rc->Rc
 |some (.exit id',s)=>some (.exit id',s)
 |some (.normal,s)=>some (.normal,s)
 |some (.ret,s)=>some (.ret,s)
 |_=>none
def nrm:Option St->Rc
 |some s=>some (.normal,s)
 |none=>none
structure CC where
 f:Ev->Nat->Hp->Nat->St->Rc
def rangeC(g:Operand)(ps:Array Tmp)(asg body:Code):CC:=⟨λev k0 H0 nt s=>match evA s.A g with
 | .fn (.func f) l m=>evRange ev k0 H0 nt s f l m ps asg body
 | .lit (.func (.func f) l m)=>evRange ev k0 H0 nt s f (l.toList.map .lit) (m.toList.map .lit) ps asg body
 |_=>none⟩
def noC:CC:=⟨λ_ _ _ _ _=>none⟩
def seqC(ds:List Dop):CC:=⟨λev k0 H0 nt s=>nrm (evSeq ev k0 H0 nt ds s)⟩
def drawC(ds:List Dop):CC:=⟨λev k0 H0 nt s=>nrm (evDraw ev ds k0 H0 nt s)⟩
def thenC(x y:CC):CC:=⟨λev k0 H0 nt s=>match x.f ev k0 H0 nt s with
 |some (.normal,s1)=>y.f ev k0 H0 nt s1
 |some (e,s1)=>some (e,s1)
 |none=>none⟩
def condC(c:Operand)(x y:CC):CC:=⟨λev k0 H0 nt s=>match evA s.A c with
 | .lit (.bool b)=>bif b then x.f ev k0 H0 nt s else y.f ev k0 H0 nt s
 |_=>none⟩
def loopC(x:CC):CC:=⟨λev k0 H0 nt s=>evLoop (λs=>x.f ev k0 H0 nt s) loopFuel s⟩
def endC(e:Exit):CC:=⟨λ_ _ _ _ s=>some (e,s)⟩
abbrev Hook:=Bool->Code->Code->Option CC
def cmp(P:Program)(hk:Hook)(inr:Bool)(c:Code):CC:=Code.rec (motive:=λ_=>CC)
 (endC .normal)
 (λ_ ops draw=>bif draw then(bif dagB ops then drawC (dops P ops.toList ops.toList (ancL ops.toList []))else noC)else seqC (dops P ops.toList ops.toList []))
 (λx y cx cy=>match hk inr x y with
   |some cc=>cc
   |none=>thenC cx cy)
 (λc _ _ x y=>condC c x y)
 (λid _ x=>⟨λev k0 H0 nt s=>inBlk id (x.f ev k0 H0 nt s)⟩)
 (λ_ x=>loopC x)
 (λg ps asg body _ _=>bif inr then noC else rangeC g ps asg body)
 (λid=>endC (.exit id))
 (λ_ x=>⟨λev k0 H0 nt s=>inScp (x.f ev k0 H0 nt s)⟩)
 (λ_=>endC .normal)
 (λ_=>noC)
 (endC .ret)
 (λ_=>noC) c
def CodeOk(P:Program)(k0:Nat)(H0:Hp)(nt:Nat)(inr:Bool)(s:St)(c:Code)(e:Exit)(s':St):Prop:=
 s.k<=s'.k/\∀{N:Nat}{ρ:Rho}{a:Act}{W:World}(R:Option Nat)(n:Nat),(inr=false->R=none)->StR N k0 nt H0 ρ s a W->Free ρ s.k s'.k->∀Q:Exit->Act->World->Prop,(∀a' W',Ends N k0 nt H0 ρ s W s' a' W'->Q e a' W')->c.wpIn (Fc R) n P Q a W
def HookOk(P:Program)(hk:Hook):Prop:=∀(inr:Bool)(x y:Code)(cc:CC),hk inr x y=some cc->∀(ev:Ev)(k0 nt:Nat)(H0:Hp),EvOk P ev->∀(s:St)(e:Exit)(s':St),cc.f ev k0 H0 nt s=some (e,s')->CodeOk P k0 H0 nt inr s (.seq x y) e s'
def noHook:Hook:=λ_ _ _=>none
theorem noHook_ok(P:Program):HookOk P noHook:=λinr x y cc h=>by cases h
section
variable{ev:Ev}{P:Program}{k0 nt:Nat}{H0:Hp}{inr:Bool}
theorem loop_ok{rec:St->Rc}{c:Code}(hrec:∀s e s',rec s=some (e,s')->CodeOk P k0 H0 nt inr s c e s'):∀(m:Nat)(s:St)(e:Exit)(s':St),evLoop rec m s=some (e,s')->
 s.k<=s'.k/\∀{N:Nat}{ρ:Rho}{a:Act}{W:World}(R:Option Nat)(n:Nat),(inr=false->R=none)->StR N k0 nt H0 ρ s a W->Free ρ s.k s'.k->∀Q:Exit->Act->World->Prop,(∀a' W',Ends N k0 nt H0 ρ s W s' a' W'->Q e a' W')->Code.roundsIn (Fc R) n P c Q m a W:=by
 intro m
 induction m with
 |zero=>intro s e s' h;cases h
 |succ m ih=>
  intro s e s' h
  rw[evLoop_succ]at h
  cases hr:rec s with
  |none=>rw[hr]at h;cases h
  |some z=>
   obtain⟨e1,s1⟩:=z
   have h1:=hrec _ _ _ hr
   rw[hr]at h
   by_cases he:e1=.normal
   ·subst he
    obtain⟨h2,h3⟩:=ih s1 e s' h
    refine⟨Nat.le_trans h1.1 h2,λ{N ρ a W}R n hR hs hf Q hQ=>?_⟩
    rw[roundsIn_succ]
    refine h1.2 R n hR hs (hf.sub (Nat.le_refl _) h2) _ (λa' W' he=>?_)
    obtain⟨ρ',g1,g2,g3⟩:=he.st h1.1 hf
    exact h3 R n hR g1 g2 Q (λa'' W'' he'=>hQ _ _ (g3 _ _ _ h2 he'))
   ·have h:some (e1,s1)=some (e,s'):=by
     cases e1<;>first|exact absurd rfl he|exact h
    cases h
    refine⟨h1.1,λ{N ρ a W}R n hR hs hf Q hQ=>?_⟩
    rw[roundsIn_succ]
    refine h1.2 R n hR hs hf _ (λa' W' he'=>?_)
    have:=hQ a' W' he'
    cases e<;>first|exact absurd rfl he|exact this
theorem gr_putObj(W:World)(b:Nat)(o:Obj):W.grownBy (W.putObj b o) (some b):=
 ⟨rfl,rfl,rfl,by simp,λj _ hne=>World.putObj_heap_other (λe=>hne (by rw[e]))⟩
def hideN(n:Nat)(H:Hp):Hp:=λm=>bif Nat.beq m n then none else H m
theorem hideN_sub(n:Nat)(H:Hp):Sub (hideN n H) H:=λm o h=>by
 unfold hideN at h
 cases hb:Nat.beq m n with
 |true=>rw[hb]at h;cases h
 |false=>rw[hb]at h;exact h
theorem hideN_ne{n:Nat}{H:Hp}{m:Nat}(h:hideN n H m≠none):m≠n:=λe=>h (by unfold hideN;rw[T.beq_yes e];rfl)
theorem RelH.grown{N:Nat}{ρ:Rho}{H:Hp}{W W':World}{r:Nat}(h:RelH N ρ H W)(hg:W.grownBy W' (some r))(hr:¬InH ρ H r):RelH N ρ H W':=
 ⟨λn o ho=>by
   obtain⟨b,κ,h1,h2,h3⟩:=h.obj n o ho
   exact⟨b,κ,h1,h2,h3.blk (hg.block b h3.lt (λe=>hr (by cases e;exact⟨n,κ,by rw[ho];simp,h1⟩)))⟩,h.inj,Nat.le_trans h.size hg.size⟩
theorem range_ok(hev:EvOk P ev){s s':St}{f:Nat}{l m:List AV}{g:Operand}{ps:Array Tmp}{asg body:Code}{e:Exit}(hg:∀{ρ:Rho}{a:Act},RelT ρ s.A nt a.tmps->∃lv mv,RelL ρ l lv/\RelL ρ m mv/\a.eval g=.func (.func f) lv.toArray mv.toArray)
 (h:evRange ev k0 H0 nt s f l m ps asg body=some (e,s')):CodeOk P k0 H0 nt false s (.rangeFunc g ps asg body) e s':=by
 unfold evRange at h
 split at h
 ·rename_i r hr
  have ht:=hev.2 _ _ _ _ _ hr
  have hle:=ht.le
  unfold evRange2 at h
  split at h
  ·rename_i l2 hl2
   have hh2:∀x:List Nat,({St.putD k0 [(s.k+1,none)] {St.putD k0 r.d (rangeSt k0 nt ps asg body s)with k:=r.k}with df:=x}:St).hp k0 H0=upH (ovr r.d ((rangeSt k0 nt ps asg body s).hp k0 H0)) (s.k+1) none:=λx=>by
    have e1:=hp_putD k0 H0 [(s.k+1,none)] {St.putD k0 r.d (rangeSt k0 nt ps asg body s)with k:=r.k}
    rw[app_cons,app_nil]at e1
    refine e1.trans ?_
    rw[show({St.putD k0 r.d (rangeSt k0 nt ps asg body s)with k:=r.k}:St).hp k0 H0=(St.putD k0 r.d (rangeSt k0 nt ps asg body s)).hp k0 H0 from rfl,hp_putD]
   have hh1:(rangeSt k0 nt ps asg body s).hp k0 H0=upH (upH (s.hp k0 H0) s.k (some .dfr)) (s.k+1) (some (.loop {st:=.ready,pd:=none,tmps:=s.A,nt,ps,assign:=asg,body})):=by
    have e1:=hp_putD k0 H0 [(s.k+1,some (.loop {st:=.ready,pd:=none,tmps:=s.A,nt,ps,assign:=asg,body})),(s.k,some .dfr)] s
    rw[app_cons,app_cons,app_nil]at e1
    exact e1
   have hk2:∀x:List Nat,({St.putD k0 [(s.k+1,none)] {St.putD k0 r.d (rangeSt k0 nt ps asg body s)with k:=r.k}with df:=x}:St).k=r.k:=λx=>(putD_A k0 [(s.k+1,none)] {St.putD k0 r.d (rangeSt k0 nt ps asg body s)with k:=r.k}).2.1
   have hA2:∀x:List Nat,({St.putD k0 [(s.k+1,none)] {St.putD k0 r.d (rangeSt k0 nt ps asg body s)with k:=r.k}with df:=x}:St).A=s.A:=λx=>by
    have e1:=(putD_A k0 [(s.k+1,none)] {St.putD k0 r.d (rangeSt k0 nt ps asg body s)with k:=r.k}).1
    refine e1.trans ?_
    refine(putD_A k0 r.d (rangeSt k0 nt ps asg body s)).1.trans ?_
    exact(putD_A k0 _ s).1
   have hl2:ovr r.d ((rangeSt k0 nt ps asg body s).hp k0 H0) (s.k+1)=some (.loop l2):=by
    rw[<-hp_putD];exact hl2
   have fin:∀(e:Exit)(s':St),l2.st≠.busy->s'=({St.putD k0 [(s.k+1,none)] {St.putD k0 r.d (rangeSt k0 nt ps asg body s)with k:=r.k}with df:=s.k::s.df}:St)->
    (∀(R:Option Nat)(n:Nat)(Q:Exit->Act->World->Prop)(a':Act)(W':World),Q e a' W'->match l2.pd with|none=>Q .normal a' W'|some c=>c.wpIn (Fc R) n P Q a' W')->CodeOk P k0 H0 nt false s (.rangeFunc g ps asg body) e s':=by
    intro e s' hnb hs' hend
    subst hs'
    refine⟨by rw[hk2];omega,λ{N ρ a W}R n hR hs hf Q hQ=>?_⟩
    rw[hk2]at hf
    obtain rfl:=hR rfl
    refine wpIn_rangeFunc (λfn _=>?_)
    obtain⟨lv,mv,q1,q2,q3⟩:=hg hs.tmps
    have hf0:ρ s.k=none:=hf s.k (Nat.le_refl _) (by omega)
    have p1:Post N ρ (s.hp k0 H0) W (upH (s.hp k0 H0) s.k (some .dfr)) s.k (s.k+1) (upR ρ s.k (W.heap.size,0)) (W.alloc (.deferred (some []))):=
     Post.new hs.heap hf0 (gr_alloc W _) (Nat.le_refl _) (heap_alloc_new W _)
    have hf1:upR ρ s.k (W.heap.size,0) (s.k+1)=none:=by
     rw[p1.only (s.k+1) (by omega)]
     exact hf (s.k+1) (by omega) (by omega)
    have p2:Post N (upR ρ s.k (W.heap.size,0)) (upH (s.hp k0 H0) s.k (some .dfr)) (W.alloc (.deferred (some []))) ((rangeSt k0 nt ps asg body s).hp k0 H0) (s.k+1) (s.k+2) (upR (upR ρ s.k (W.heap.size,0)) (s.k+1) ((W.alloc (.deferred (some []))).heap.size,0))
     ((W.alloc (.deferred (some []))).alloc (.loop {state:=.ready,pending:=none,fn,tmps:=a.tmps,params:=ps,assign:=asg,body,defers:=W.heap.size})):=by
     rw[hh1]
     refine Post.new p1.heap hf1 (gr_alloc _ _) (Nat.le_refl _) ⟨fn,a.tmps,W.heap.size,heap_alloc_new _ _,?_⟩
     exact(hs.tmps.mono p1.le).mono (upR_le hf1)
    have p3:=p1.trans p2 (Nat.le_succ _) (Nat.le_succ _)
    have hy:RelL (upR (upR ρ s.k (W.heap.size,0)) (s.k+1) ((W.alloc (.deferred (some []))).heap.size,0)) (l++[.yld (s.k+1)]++m) (lv++[.func (.yield (W.alloc (.deferred (some []))).heap.size) #[] #[]]++mv):=
     ((q1.mono p3.le).append (show RelL _ [.yld (s.k+1)] [Value.func (.yield (W.alloc (.deferred (some []))).heap.size) #[] #[]]from⟨_,[],⟨_,_,if_pos rfl,rfl⟩,rfl,rfl⟩)).append (q2.mono p3.le)
    obtain⟨c1,c2⟩:=ht.does p2.heap hy (hf.post p3 (by omega))
    have hsz:(W.alloc (.deferred (some []))).heap.size=W.heap.size+1:=World.size_alloc _ _
    rw[hsz]at c1 c2 hy p2 p3
    have henter:=run_enterLoop_outer (P:=P) (w:=W) fn a.tmps ps asg body
    generalize ((W.alloc (.deferred (some []))).alloc (.loop {state:=.ready,pending:=none,fn,tmps:=a.tmps,params:=ps,assign:=asg,body:=body,defers:=W.heap.size}))=W1 at henter c1 c2 p2 p3
    refine⟨W.heap.size+1,[{target:=.collected W.heap.size,args:=#[]}],W1,{target:=.fn (.func f) mv.toArray,args:=lv.toArray++#[.func (.yield (W.heap.size+1)) #[] #[]]},W1,f,(lv++[Value.func (.yield (W.heap.size+1)) #[] #[]]++mv).toArray,W1,henter,?_,λf' _=>fc_fn none f',?_,(fc_lets none n P).deep,?_⟩
    ·simp only[resolve,q3]
     simp[Deferred.ofValue,Act.eval]
    ·have harr:(lv++[Value.func (.yield (W.heap.size+1)) #[] #[]]++mv).toArray=lv.toArray++#[.func (.yield (W.heap.size+1)) #[] #[]]++mv.toArray:=by
      apply Array.toList_inj.1
      simp
     rw[harr]at c1 ⊢
     show(callFunc f (lv.toArray++#[.func (.yield (W.heap.size+1)) #[] #[]]++mv.toArray)).run P W1=_
     exact c1 _
    ·refine callsIn_wide.2 (c2.mono (λe' W2 he'=>?_))
     obtain⟨v,rfl,ρ2,p4,_⟩:=he'
     have p5:=p3.trans p4 (by omega) hle
     obtain⟨b2,κ2,g1,g2,fn2,tmps2,d2,g3,g4⟩:=p4.heap.obj _ _ hl2
     have hb2:ρ2 (s.k+1)=some (W.heap.size+1,0):=p4.le _ _ (if_pos rfl)
     rw[hb2]at g1
     cases g1
     have hlive:ovr r.d ((rangeSt k0 nt ps asg body s).hp k0 H0) (s.k+1)≠none:=by rw[hl2];simp
     have p6:=Post.kill (k:=r.k) p4.heap hlive hb2 (gr_putObj W2 (W.heap.size+1) (.loop {state:=.exhausted,pending:=l2.pd,fn:=fn2,tmps:=tmps2,params:=l2.ps,assign:=l2.assign,body:=l2.body,defers:=d2}))
     have p7:=p5.trans p6 (by omega) (Nat.le_refl _)
     refine⟨l2.pd,_,run_endLoop g3 hnb,?_⟩
     refine hend none n Q _ _ (hQ _ _ ⟨ρ2,?_,?_,?_⟩)
     ·rw[hh2,hk2];exact p7
     ·rw[hA2];exact hs.tmps.mono p7.le
     ·exact⟨W.heap.size,0,a.defers,p4.le _ _ (by
       show upR (upR ρ s.k (W.heap.size,0)) (s.k+1) (W.heap.size+1,0) s.k=_
       unfold upR
       rw[if_neg (by omega),if_pos rfl]),rfl,hs.defers.mono p7.le⟩
   split at h
   ·cases h
   ·rename_i hnb
    split at h
    ·rename_i hpd
     cases h
     exact fin _ _ (λe=>hnb e) rfl (λR n Q a' W' hq=>by rw[hpd];exact hq)
    ·rename_i hpd
     cases h
     exact fin _ _ (λe=>hnb e) rfl (λR n Q a' W' hq=>by rw[hpd];exact wpIn_ret hq)
    ·rename_i id hpd
     cases h
     exact fin _ _ (λe=>hnb e) rfl (λR n Q a' W' hq=>by rw[hpd];exact wpIn_exit hq)
    ·cases h
  ·cases h
 ·cases h
theorem code_ok{hk:Hook}(hhk:HookOk P hk)(hev:EvOk P ev)(hm:P.follows .mixedOrders=true):∀(c:Code)(s:St)(e:Exit)(s':St),(cmp P hk inr c).f ev k0 H0 nt s=some (e,s')->CodeOk P k0 H0 nt inr s c e s':=by
 intro c
 induction c with
 |skip=>intro s e s' h;cases h;exact⟨Nat.le_refl _,λR n _ hs _ Q hQ=>wpIn_skip (hQ _ _ (Ends.refl hs))⟩
 |label l=>intro s e s' h;cases h;exact⟨Nat.le_refl _,λR n _ hs _ Q hQ=>wpIn_label (hQ _ _ (Ends.refl hs))⟩
 |exit id=>intro s e s' h;cases h;exact⟨Nat.le_refl _,λR n _ hs _ Q hQ=>wpIn_exit (hQ _ _ (Ends.refl hs))⟩
 |ret=>intro s e s' h;cases h;exact⟨Nat.le_refl _,λR n _ hs _ Q hQ=>wpIn_ret (hQ _ _ (Ends.refl hs))⟩
 |goto l=>intro s e s' h;cases h
 |refuse w=>intro s e s' h;cases h
 |region id ops draw=>
  intro s e s' h
  cases draw with
  |true=>
   have h:(bif dagB ops then drawC (dops P ops.toList ops.toList (ancL ops.toList []))else noC).f ev k0 H0 nt s=some (e,s'):=h
   cases hc:dagB ops with
   |false=>rw[hc]at h;cases h
   |true=>
    rw[hc]at h
    have h:nrm (evDraw ev (dops P ops.toList ops.toList (ancL ops.toList [])) k0 H0 nt s)=some (e,s'):=h
    cases hx:evDraw ev (dops P ops.toList ops.toList (ancL ops.toList [])) k0 H0 nt s with
    |none=>rw[hx]at h;cases h
    |some s1=>
     rw[hx]at h
     cases h
     obtain⟨h1,h2⟩:=drawn_ok hev hm (dagB_ok hc) (anc_ok (dagB_ok hc)) hx
     exact⟨h1,λR n _ hs hf Q hQ=>h2 R n id hs hf Q hQ⟩
  |false=>
   have h:nrm (evSeq ev k0 H0 nt (dops P ops.toList ops.toList []) s)=some (e,s'):=h
   cases hx:evSeq ev k0 H0 nt (dops P ops.toList ops.toList []) s with
   |none=>rw[hx]at h;cases h
   |some s1=>
    rw[hx]at h
    cases h
    obtain⟨h1,h2⟩:=region_ok hev hx
    exact⟨h1,λR n _ hs hf Q hQ=>h2 R n id hs hf Q hQ⟩
 |seq x y ihx ihy=>
  intro s e s' h
  have h:(match hk inr x y with|some cc=>cc|none=>thenC (cmp P hk inr x) (cmp P hk inr y)).f ev k0 H0 nt s=some (e,s'):=h
  cases hkx:hk inr x y with
  |some cc=>rw[hkx]at h;exact hhk inr x y cc hkx ev k0 nt H0 hev s e s' h
  |none=>
  rw[hkx]at h
  simp only[thenC]at h
  cases hx:(cmp P hk inr x).f ev k0 H0 nt s with
  |none=>rw[hx]at h;cases h
  |some z=>
   obtain⟨e1,s1⟩:=z
   have h1:=ihx _ _ _ hx
   rw[hx]at h
   by_cases he:e1=.normal
   ·subst he
    have h2:=ihy _ _ _ h
    refine⟨Nat.le_trans h1.1 h2.1,λ{N ρ a W}R n hR hs hf Q hQ=>wpIn_seq (h1.2 R n hR hs (hf.sub (Nat.le_refl _) h2.1) _ (λa' W' he=>?_))⟩
    obtain⟨ρ',g1,g2,g3⟩:=he.st h1.1 hf
    exact h2.2 R n hR g1 g2 Q (λa'' W'' he'=>hQ _ _ (g3 _ _ _ h2.1 he'))
   ·have h:some (e1,s1)=some (e,s'):=by
     cases e1<;>first|exact absurd rfl he|exact h
    cases h
    refine⟨h1.1,λ{N ρ a W}R n hR hs hf Q hQ=>wpIn_seq (h1.2 R n hR hs hf _ (λa' W' he'=>?_))⟩
    have:=hQ a' W' he'
    cases e<;>first|exact absurd rfl he|exact this
 |cond c x y ihx ihy=>
  intro s e s' h
  have h:(condC c (cmp P hk inr x) (cmp P hk inr y)).f ev k0 H0 nt s=some (e,s'):=h
  simp only[condC]at h
  split at h
  ·rename_i b hc
   cases b with
   |true=>
    have h1:=ihx _ _ _ h
    refine⟨h1.1,λ{N ρ a W}R n hR hs hf Q hQ=>wpIn_cond_true ?_ (h1.2 R n hR hs hf Q hQ)⟩
    have:=evA_rel hs.tmps c
    rw[hc]at this
    exact this
   |false=>
    have h1:=ihy _ _ _ h
    refine⟨h1.1,λ{N ρ a W}R n hR hs hf Q hQ=>wpIn_cond_false ?_ (h1.2 R n hR hs hf Q hQ)⟩
    have:=evA_rel hs.tmps c
    rw[hc]at this
    exact this
  ·cases h
 |block id c ih=>
  intro s e s' h
  have h:inBlk id ((cmp P hk inr c).f ev k0 H0 nt s)=some (e,s'):=h
  cases hx:(cmp P hk inr c).f ev k0 H0 nt s with
  |none=>rw[hx]at h;cases h
  |some z=>
   obtain⟨e1,s1⟩:=z
   have h1:=ih _ _ _ hx
   rw[hx]at h
   have key:∀Q:Exit->Act->World->Prop,∀a' W',Q e a' W'->s'=s1/\Exit.inBlock id Q e1 a' W':=λQ a' W' hq=>by
    cases e1 with
    |normal=>cases h;exact⟨rfl,hq⟩
    |ret=>cases h;exact⟨rfl,hq⟩
    |exit id'=>
     simp only[inBlk]at h
     cases hb:Nat.beq id' id with
     |true=>
      rw[hb]at h
      cases h
      refine⟨rfl,?_⟩
      simp only[Exit.inBlock,Nat.eq_of_beq_eq_true hb,if_true]
      exact hq
     |false=>
      rw[hb]at h
      cases h
      refine⟨rfl,?_⟩
      have hne:id'≠id:=λe=>by rw[T.beq_yes e]at hb;cases hb
      simp only[Exit.inBlock,hne,if_false]
      exact hq
    |goto l=>cases h
    |panic c=>cases h
    |outgrown=>cases h
   have hs1:s'=s1:=(key (λ_ _ _=>True) ⟨#[],[]⟩ default trivial).1
   subst hs1
   exact⟨h1.1,λ{N ρ a W}R n hR hs hf Q hQ=>wpIn_block (h1.2 R n hR hs hf _ (λa' W' he'=>(key Q a' W' (hQ a' W' he')).2))⟩
 |scope c ih=>
  intro s e s' h
  have h:inScp ((cmp P hk inr c).f ev k0 H0 nt s)=some (e,s'):=h
  cases hx:(cmp P hk inr c).f ev k0 H0 nt s with
  |none=>rw[hx]at h;cases h
  |some z=>
   obtain⟨e1,s1⟩:=z
   have h1:=ih _ _ _ hx
   rw[hx]at h
   have key:e=e1/\s'=s1/\∀(Q:Exit->Act->World->Prop)a' W',Q e1 a' W'->Exit.noGoto Q e1 a' W':=by
    cases e1<;>first|(cases h;done)|(cases h;exact⟨rfl,rfl,λQ a' W' hq=>hq⟩)
   obtain⟨rfl,rfl,key⟩:=key
   exact⟨h1.1,λ{N ρ a W}R n hR hs hf Q hQ=>wpIn_scope (h1.2 R n hR hs hf _ (λa' W' he'=>key Q a' W' (hQ a' W' he')))⟩
 |loop c ih=>
  intro s e s' h
  have h:(loopC (cmp P hk inr c)).f ev k0 H0 nt s=some (e,s'):=h
  simp only[loopC]at h
  generalize loopFuel=m at h
  obtain⟨h1,h2⟩:=loop_ok ih m s e s' h
  exact⟨h1,λ{N ρ a W}R n hR hs hf Q hQ=>wpIn_loop_rounds m (h2 R n hR hs hf Q hQ)⟩
 |rangeFunc g ps asg body _ _=>
  intro s e s' h
  cases inr with
  |true=>cases h
  |false=>
   have h:(rangeC g ps asg body).f ev k0 H0 nt s=some (e,s'):=h
   simp only[rangeC]at h
   split at h
   ·rename_i f' l m hx
    refine range_ok hev (λ{ρ a}hr=>?_) h
    have h4:=evA_rel hr g
    rw[hx]at h4
    exact h4
   ·rename_i f' l m hx
    refine range_ok hev (λ{ρ a}hr=>?_) h
    have h4:=evA_rel hr g
    rw[hx]at h4
    exact⟨_,_,RelL.lits _,RelL.lits _,h4⟩
   ·cases h
end
end
end Go.Proofs.YtifehdoghfnhoaaGreatDoor.Ev
