/- Closed calls are reckoned by the kernel: the functions of this program. -/
import Derived.Test.YtifehdoghfnhoaaGreatDoorZEvO
namespace Go.Proofs.YtifehdoghfnhoaaGreatDoor.Ev
noncomputable section
open Go.RowKit Go.Shelf
mutual
def namesV:AV->List Nat->List Nat
 | .lit _,l=>l
 | .ptr n _,l=>n::l
 | .sl n _ _ _ _ _,l=>n::l
 | .emp n,l=>n::l
 | .agg cs,l=>namesVs cs l
 | .tup cs,l=>namesVs cs l
 | .fn _ a c,l=>namesVs a (namesVs c l)
 | .mp n,l=>n::l
 | .yld n,l=>n::l
 | .dead,l=>l
def namesVs:List AV->List Nat->List Nat
 |[],l=>l
 |a::asg,l=>namesV a (namesVs asg l)
end
def namesO:Option AO->List Nat->List Nat
 |some (.cells cs _),l=>namesVs cs l
 |_,l=>l
def namesDl:Dl->List Nat->List Nat
 |[],l=>l
 |(_,x)::d,l=>namesO x (namesDl d l)
def reach(D:T AO)(k0:Nat):Nat->List Nat->T Unit->List Nat->List Nat
 |0,_,_,acc=>acc
 |f+1,todo,seen,acc=>match todo with
  |[]=>acc
  |n::todo=>bif Nat.ble k0 n then(match seen.get n with
   |some _=>reach D k0 f todo seen acc
   |none=>reach D k0 f (namesO (D.get n) todo) (seen.set n (some ())) (n::acc))else reach D k0 f todo seen acc
def newsD(D:T AO)(k0 k1:Nat):List Nat->Dl
 |[]=>[]
 |n::l=>bif Nat.ble k0 n&&Nat.blt n k1 then(n,D.get n)::newsD D k0 k1 l else newsD D k0 k1 l
theorem newsD_is{D:T AO}{k0 k1:Nat}:∀{l:List Nat}{n:Nat}{x:Option AO},look (newsD D k0 k1 l) n=some x->Nat.ble k0 n=true/\n<k1/\x=D.get n
 |[],n,x,h=>by cases h
 |m::l,n,x,h=>by
  unfold newsD at h
  cases hb:(Nat.ble k0 m&&Nat.blt m k1)with
  |false=>rw[hb]at h;exact newsD_is h
  |true=>
   rw[hb,cond_true,look_cons]at h
   rw[Bool.and_eq_true]at hb
   by_cases e:n=m
   ·rw[if_pos e]at h;cases h;rw[e];exact⟨hb.1,Nat.le_of_ble_eq_true hb.2,rfl⟩
   ·rw[if_neg e]at h;exact newsD_is h
def oldOk(k0:Nat)(H:Hp):Dl->Bool
 |[]=>true
 |(n,_)::l=>Nat.blt n k0&&liveN H n&&oldOk k0 H l
theorem oldOk_at{k0:Nat}{H:Hp}:∀{l:Dl}{n:Nat},oldOk k0 H l=true->look l n≠none->n<k0/\H n≠none
 |[],_,_,h=>absurd rfl h
 |(m,x)::l,n,ho,h=>by
  simp only[oldOk,Bool.and_eq_true]at ho
  rw[look_cons]at h
  by_cases e:n=m
  ·rw[e];exact⟨Nat.le_of_ble_eq_true ho.1.1,liveN_ne ho.1.2⟩
  ·rw[if_neg e]at h;exact oldOk_at ho.2 h
def retD(k0:Nat)(s:St)(v:AV):Dl:=newsD s.Dn k0 s.k (reach s.Dn k0 1000000 (namesV v (namesDl s.Do [])) .e [])++s.Do
def retR(k0:Nat)(H:Hp)(s:St)(v:AV):Option Rs:=bif oldOk k0 H s.Do then some ⟨v,retD k0 s v,s.k⟩else none
def cutH(k0:Nat)(H:Hp):Hp:=λn=>bif Nat.ble k0 n then none else H n
theorem cutH_sub(k0:Nat)(H:Hp):Sub (cutH k0 H) H:=λn o h=>by
 unfold cutH at h
 cases hb:Nat.ble k0 n with
 |true=>rw[hb]at h;cases h
 |false=>rw[hb]at h;exact h
theorem ret_touch{k:Nat}{H:Hp}{s:St}{v:AV}(ho:oldOk k H s.Do=true):Touch (cutH k H) (retD k s v) k s.k:=λn hn=>by
 unfold retD at hn
 rw[look_append]at hn
 cases hnew:look (newsD s.Dn k s.k (reach s.Dn k 1000000 (namesV v (namesDl s.Do [])) .e [])) n with
 |some x=>
  obtain⟨h1,h2,_⟩:=newsD_is hnew
  exact .inr ⟨Nat.le_of_ble_eq_true h1,h2⟩
 |none=>
  rw[hnew]at hn
  obtain⟨h1,h2⟩:=oldOk_at ho hn
  refine .inl ?_
  unfold cutH
  cases hb:Nat.ble k n with
  |true=>have:=Nat.le_of_ble_eq_true hb;omega
  |false=>exact h2
theorem retR_is{k:Nat}{H:Hp}{s:St}{v:AV}{r:Rs}(hr:retR k H s v=some r):r.k=s.k/\Touch H r.d k r.k:=by
 unfold retR at hr
 cases ho:oldOk k H s.Do with
 |false=>rw[ho]at hr;cases hr
 |true=>
  rw[ho]at hr
  cases hr
  exact⟨rfl,(ret_touch ho).sub (cutH_sub k H)⟩
theorem ret_post{N:Nat}{ρ ρ':Rho}{H:Hp}{W W':World}{k:Nat}{s:St}{v:AV}{r:Rs}(hr:retR k H s v=some r)(hp:Post N ρ (cutH k H) W (s.hp k H) k s.k ρ' W')(hH:RelH N ρ H W)(hf:Free ρ k s.k):r.v=v/\Post N ρ H W (ovr r.d H) k r.k ρ' W':=by
 unfold retR at hr
 cases ho:oldOk k H s.Do with
 |false=>rw[ho]at hr;cases hr
 |true=>
  rw[ho]at hr
  cases hr
  have hsub:Sub (ovr (retD k s v) (cutH k H)) (s.hp k H):=λn o hn=>by
   unfold ovr retD at hn
   rw[look_append]at hn
   unfold St.hp
   cases hnew:look (newsD s.Dn k s.k (reach s.Dn k 1000000 (namesV v (namesDl s.Do [])) .e [])) n with
   |some x=>
    rw[hnew]at hn
    obtain⟨h1,_,h2⟩:=newsD_is hnew
    rw[h1,cond_true,<-h2]
    exact hn
   |none=>
    rw[hnew]at hn
    cases hold:look s.Do n with
    |some x=>
     rw[hold]at hn
     have hlt:=(oldOk_at ho (by rw[hold];simp)).1
     have hb:Nat.ble k n=false:=by
      cases hb:Nat.ble k n with
      |false=>rfl
      |true=>have:=Nat.le_of_ble_eq_true hb;omega
     rw[hb,cond_false]
     unfold ovr
     rw[hold]
     exact hn
    |none=>
     rw[hold]at hn
     have hn:cutH k H n=some o:=hn
     unfold cutH at hn
     cases hb:Nat.ble k n with
     |true=>rw[hb]at hn;cases hn
     |false=>
      rw[hb]at hn
      rw[cond_false]
      unfold ovr
      rw[hold]
      exact hn
  have htouch:=ret_touch (v:=v) ho
  exact⟨rfl,(hp.less hsub).frame (cutH_sub k H) hH htouch hf⟩
theorem ret_ok{N:Nat}{ρ ρ':Rho}{H:Hp}{W W':World}{k:Nat}{s:St}{v:AV}{r:Rs}{u:Value}(hr:retR k H s v=some r)(hp:Post N ρ (cutH k H) W (s.hp k H) k s.k ρ' W')(hH:RelH N ρ H W)(hf:Free ρ k s.k)(hv:RelV ρ' v u):Out N ρ H W k r u W':=by
 obtain⟨h1,h2⟩:=ret_post hr hp hH hf
 exact⟨ρ',h2,by rw[h1];exact hv⟩
end
end Go.Proofs.YtifehdoghfnhoaaGreatDoor.Ev
namespace Go.Proofs.YtifehdoghfnhoaaGreatDoor.Ev
noncomputable section
open Go.RowKit Go.Shelf
structure FnE where
 code:Code
 nt:Nat
 rs:List ResultVar
def FnOk(P:Program)(f:Nat)(e:FnE):Prop:=∃fn,P.funcs[f]? =some fn/\fn.body=some e.code/\(∀(args:Array Value)(W:World),(callFunc f args).run P W=.ok (.enter f args) W)/\fn.ntmps=e.nt/\fn.results.toList=e.rs
def resA1(P:Program)(A:T AV)(H:Hp):ResultVar->Option AV
 | .tmp t=>some ((A.get t).getD .dead)
 | .cell a t=>match A.get a with
   |some (.ptr n f)=>match H n with
    |some (.cells cs _)=>loadA P t cs f
    |_=>none
   |_=>none
def resAs(P:Program)(A:T AV)(H:Hp):List ResultVar->Option (List AV)
 |[]=>some []
 |r::rs=>match resA1 P A H r with
  |some v=>match resAs P A H rs with
   |some vs=>some (v::vs)
   |none=>none
  |none=>none
def resSem(tmps:Array Value):ResultVar->Sem Value
 | .tmp t=>pure (tmps.getD t undef)
 | .cell a t=>do loadVar t (<-asAddr (tmps.getD a undef))
def mkRes:List AV->AV
 |[x]=>x
 |l=>match litsOf l with
  |some vs=>.lit (.tuple vs.toArray)
  |none=>.tup l
section
variable{N:Nat}{ρ:Rho}{H:Hp}{P:Program}{W:World}{A:T AV}{nt:Nat}{tmps:Array Value}
theorem mapM_run{α:Type}{g:α->Sem Value}:∀{l:List α}{vs:List Value},vs.length=l.length->(∀(i:Nat)(x:α)(v:Value),l[i]? =some x->vs[i]? =some v->(g x).run P W=.ok v W)->(l.mapM g).run P W=.ok vs W
 |[],[],_,_=>by simp
 |[],v::vs,h,_=>by simp at h
 |x::l,[],h,_=>by simp at h
 |x::l,v::vs,h,hg=>by
  rw[List.mapM_cons,Sem.run_bind,hg 0 x v rfl rfl]
  simp only[Result.andThen_ok,Sem.run_bind]
  rw[mapM_run (l:=l) (vs:=vs) (by simpa using h) (λi y u hy hu=>hg (i+1) y u (by simpa using hy) (by simpa using hu))]
  simp
theorem resSem_cell{a t:Nat}{b f:Nat}(h:tmps.getD a undef=.pointer (some ⟨b,f,none⟩)):resSem tmps (.cell a t)=loadVar t ⟨b,f,none⟩:=by
 unfold resSem
 simp only[h]
 rfl
theorem resA1_run(hT:RelT ρ A nt tmps)(hH:RelH N ρ H W){r:ResultVar}{av:AV}(h:resA1 P A H r=some av):∃v,(resSem tmps r).run P W=.ok v W/\RelV ρ av v:=by
 cases r with
 |tmp t=>cases h;exact⟨_,rfl,hT.2 t⟩
 |cell a t=>
  simp only[resA1]at h
  split at h
  ·rename_i n f hA
   split at h
   ·rename_i cs tt hn
    have h1:=hT.2 a
    rw[hA]at h1
    obtain⟨u,h2,h3⟩:=load_run hH hn h1 h
    obtain⟨b,κ,h4,h5⟩:=h1
    refine⟨u,?_,h3⟩
    rw[h5]at h2
    simp only[Instr.loadAt,Instr.sureAddr,Sem.run_bind,Sem.run_pure,Result.andThen_ok]at h2
    rw[resSem_cell h5]
    exact h2
   ·cases h
  ·cases h
theorem resAs_run(hT:RelT ρ A nt tmps)(hH:RelH N ρ H W):∀{rs:List ResultVar}{avs:List AV},resAs P A H rs=some avs->∃vs,vs.length=rs.length/\RelL ρ avs vs/\∀(i:Nat)(r:ResultVar)(v:Value),rs[i]? =some r->vs[i]? =some v->(resSem tmps r).run P W=.ok v W
 |[],avs,h=>by cases h;exact⟨[],rfl,rfl,λi r v h=>by simp at h⟩
 |r::rs,avs,h=>by
  simp only[resAs]at h
  split at h
  ·rename_i av hr
   split at h
   ·rename_i avs' hrs
    cases h
    obtain⟨v,h1,h2⟩:=resA1_run hT hH hr
    obtain⟨vs,h3,h4,h5⟩:=resAs_run hT hH hrs
    refine⟨v::vs,by simp[h3],⟨v,vs,h2,h4,rfl⟩,λi r' v' hi hv=>?_⟩
    cases i with
    |zero=>simp at hi hv;subst hi;subst hv;exact h1
    |succ i=>exact h5 i r' v' (by simpa using hi) (by simpa using hv)
   ·cases h
  ·cases h
theorem mkRes_rel{avs:List AV}{vs:List Value}(h:RelL ρ avs vs):RelV ρ (mkRes avs) (if h:vs.toArray.size=1 then vs.toArray[0]else .tuple vs.toArray):=by
 have hlen:=h.len
 have key:vs.length≠1->RelV ρ (match litsOf avs with|some vs=>.lit (.tuple vs.toArray)|none=>.tup avs) (if h:vs.toArray.size=1 then vs.toArray[0]else .tuple vs.toArray):=λhne=>by
  rw[dif_neg (by simpa using hne)]
  cases hl:litsOf avs with
  |none=>exact⟨vs,h,rfl⟩
  |some xs=>rw[litsOf_rel hl h];rfl
 unfold mkRes
 split
 ·rename_i x
  obtain⟨v,vs',h1,h2,h3⟩:=h
  subst h3
  rw[show vs'=[]from h2]
  exact h1
 ·rename_i hne
  refine key (λe=>?_)
  rw[hlen]at e
  obtain⟨x,hx⟩:=List.length_eq_one_iff.1 e
  exact hne x hx
theorem results_run{fn:Func}(hT:RelT ρ A nt tmps)(hH:RelH N ρ H W){avs:List AV}(h:resAs P A H fn.results.toList=some avs):∃v,(results fn tmps).run P W=.ok v W/\RelV ρ (mkRes avs) v:=by
 obtain⟨vs,h1,h2,h3⟩:=resAs_run hT hH h
 refine⟨_,?_,mkRes_rel h2⟩
 have hres:results fn tmps=(do
  let vs<-fn.results.mapM (resSem tmps)
  pure (if h:vs.size=1 then vs[0]else .tuple vs)):=by
  unfold results
  congr 1
 rw[hres]
 rw[Sem.run_bind,Array.mapM_eq_mapM_toList,map_eq_pure_bind,Sem.run_bind,mapM_run h1 h3]
 rfl
end
def setArgs:Nat->List AV->T AV->T AV
 |_,[],A=>A
 |i,a::l,A=>setArgs (i+1) l (A.set i (some a))
theorem setArgs_get:∀(l:List AV)(i:Nat)(A:T AV)(t:Nat),(setArgs i l A).get t=if t<i then A.get t else match l[t-i]? with|some a=>some a|none=>A.get t
 |[],i,A,t=>by simp[setArgs]
 |a::l,i,A,t=>by
  rw[setArgs,setArgs_get l (i+1),T.get_set]
  by_cases h:t<i
  ·rw[if_pos (by omega),if_pos h,if_neg (by omega)]
  ·rw[if_neg h]
   by_cases e:t=i
   ·subst e;simp
   ·rw[if_neg (by omega),if_neg e,show t-i=(t-(i+1))+1 by omega]
    simp
theorem enter_rel{ρ:Rho}{args:List AV}{vs:List Value}{nt:Nat}(h:RelL ρ args vs)(hn:args.length<=nt):RelT ρ (setArgs 0 args .e) nt (vs.toArray++Array.replicate (nt-vs.toArray.size) undef):=by
 have hlen:=h.len
 refine⟨by simp;omega,λt=>?_⟩
 rw[setArgs_get,if_neg (by omega),Nat.sub_zero]
 have hg:(vs.toArray++Array.replicate (nt-vs.toArray.size) undef).getD t undef=(vs[t]?).getD undef:=by
  rw[Array.getD_eq_getD_getElem?]
  by_cases ht:t<vs.length
  ·rw[Array.getElem?_append_left (by simpa using ht)];simp
  ·rw[Array.getElem?_append_right (by simpa using ht),List.getElem?_eq_none (by omega),Array.getElem?_replicate]
   split<;>rfl
 rw[hg]
 cases ha:args[t]? with
 |some a=>
  obtain⟨v,h1,h2⟩:=h.get ha
  rw[h1]
  exact h2
 |none=>
  have:vs[t]? =none:=by
   rw[List.getElem?_eq_none_iff]at ha ⊢
   omega
  rw[this]
  exact trivial
def killAll(k0:Nat)(H:Hp):List Nat->St->Option St
 |[],s=>some s
 |n::l,s=>match s.hp k0 H n with
  |some .dfr=>killAll k0 H l (St.putD k0 [(n,none)] s)
  |_=>none
theorem kill_ok{N:Nat}{ρ0 ρ:Rho}{H Hc:Hp}{P:Program}{W0:World}{fn:Func}{tmps:Array Value}{R:Ending->World->Prop}{k k0:Nat}:∀{df:List Nat}{s s2:St}{ds:List Deferred}{W:World},killAll k0 H df s=some s2->s2.A=s.A/\s2.k=s.k/\(DfR ρ df ds->k<=s.k->Post N ρ0 Hc W0 (s.hp k0 H) k s.k ρ W->
 (∀W',Post N ρ0 Hc W0 (s2.hp k0 H) k s2.k ρ W'->∃v,(results fn tmps).run P W'=.ok v W'/\R (.returned v) W')->LeavesInM Fence.wide 0 P fn tmps R ds .returning W)
 |[],s,s2,ds,W,h=>by
  cases h
  refine⟨rfl,rfl,λhd hk hp hR=>?_⟩
  rw[show ds=[]from hd]
  exact hR W hp
 |n::df,s,s2,ds,W,h=>by
  simp only[killAll]at h
  split at h
  ·rename_i hn
   have hA:=putD_A k0 [(n,none)] s
   have hh:(St.putD k0 [(n,none)] s).hp k0 H=upH (s.hp k0 H) n none:=by rw[hp_putD,app_cons,app_nil]
   refine⟨(kill_ok (N:=N) (ρ0:=ρ0) (ρ:=ρ) (Hc:=Hc) (P:=P) (W0:=W0) (fn:=fn) (tmps:=tmps) (R:=R) (k:=k) (ds:=[]) (W:=W) h).1.trans hA.1,(kill_ok (N:=N) (ρ0:=ρ0) (ρ:=ρ) (Hc:=Hc) (P:=P) (W0:=W0) (fn:=fn) (tmps:=tmps) (R:=R) (k:=k) (ds:=[]) (W:=W) h).2.1.trans hA.2.1,λhd hk hp hR=>?_⟩
   obtain⟨b,κ,ds',h1,rfl,h3⟩:=hd
   obtain⟨b',κ',h4,_,h5⟩:=hp.heap.obj n _ hn
   rw[h1]at h4
   cases h4
   have h5:W.heap[b]? =some (.deferred (some [])):=h5
   refine⟨by simp,.inl ⟨b,_,rfl,run_takeDeferred h5,?_⟩⟩
   refine(kill_ok (N:=N) (ρ0:=ρ0) (ρ:=ρ) (Hc:=Hc) (P:=P) (W0:=W0) (fn:=fn) (tmps:=tmps) (R:=R) (k:=k) h).2.2 h3 (by rw[hA.2.1];exact hk) ?_ hR
   rw[hh,hA.2.1]
   exact hp.trans (Post.kill (k:=s.k) hp.heap (by rw[hn];simp) h1 (gr_putObj W b _)) hk (Nat.le_refl _)
  ·cases h
def leavesE:Exit->Bool
 | .normal=>true
 | .ret=>true
 |_=>false
def evFn(P:Program)(hk:Hook)(ev:Ev)(e:FnE)(args:List AV)(H:Hp)(k:Nat):Option Rs:=
 bif Nat.ble args.length e.nt then
  match(cmp P hk false e.code).f ev k H e.nt ⟨setArgs 0 args .e,[],.e,k,[]⟩with
  |some (x,s)=>bif leavesE x then match killAll k H s.df s with
   |some s2=>match resAs P s2.A (s2.hp k H) e.rs with
    |some avs=>retR k H s2 (mkRes avs)
    |none=>none
   |none=>none
   else none
  |none=>none
 else none
theorem evFn_ok{P:Program}{hk:Hook}(hhk:HookOk P hk){ev:Ev}(hev:EvOk P ev)(hm:P.follows .mixedOrders=true){f:Nat}{e:FnE}(he:FnOk P f e){args:List AV}{H:Hp}{k:Nat}{r:Rs}(h:evFn P hk ev e args H k=some r):TgtOk P (.fn f) args H k r:=by
 unfold evFn at h
 cases hb:Nat.ble args.length e.nt with
 |false=>rw[hb]at h;cases h
 |true=>
  rw[hb,cond_true]at h
  have hb:=Nat.le_of_ble_eq_true hb
  split at h
  ·rename_i x s hc
   obtain⟨hks,hcode⟩:=code_ok hhk hev hm _ _ _ _ hc
   have hks:k<=s.k:=hks
   cases hx:leavesE x with
   |false=>rw[hx]at h;cases h
   |true=>
    rw[hx,cond_true]at h
    split at h
    ·rename_i s2 hs2
     split at h
     ·rename_i avs hres
      have hkill:=λ{N ρ0 ρ Hc W0 fn tmps R ds W}=>kill_ok (N:=N) (ρ0:=ρ0) (ρ:=ρ) (Hc:=Hc) (P:=P) (W0:=W0) (fn:=fn) (tmps:=tmps) (R:=R) (k:=k) (ds:=ds) (W:=W) hs2
      obtain⟨e1,e2,_⟩:=hkill (N:=0) (ρ0:=λ_=>none) (ρ:=λ_=>none) (Hc:=λ_=>none) (W0:=default) (fn:=default) (tmps:=#[]) (R:=λ_ _=>True) (ds:=[]) (W:=default)
      obtain⟨r1,r2⟩:=retR_is h
      refine⟨by rw[r1,e2];exact hks,r2,λ{N ρ W vs}hH hargs hf=>?_⟩
      obtain⟨fn,f1,f2,f3,f4,f5⟩:=he
      refine⟨λW=>f3 _ W,callsIn_wide.1 (callsIn_of_wp_marks (n:=0) f1 f2 trivial ?_)⟩
      have hf':Free ρ k s.k:=by rw[<-e2,<-r1];exact hf
      have hst:StR N k e.nt H ρ ⟨setArgs 0 args .e,[],.e,k,[]⟩ {tmps:=vs.toArray++Array.replicate (fn.ntmps-vs.toArray.size) undef,defers:=[]} W:=⟨hH.sub (cutH_sub k H),by rw[f4];exact enter_rel hargs hb,rfl⟩
      refine hcode none 0 (λ_=>rfl) hst hf' _ (λa' W' hends=>?_)
      obtain⟨ρ',p1,p2,p3⟩:=hends
      have p1:Post N ρ (cutH k H) W (s.hp k H) k s.k ρ' W':=p1
      have hleave:LeavesInM Fence.wide 0 P fn a'.tmps (λe W'=>∃v,e=.returned v/\Out N ρ H W k r v W') a'.defers .returning W':=by
       refine hkill.2.2 p3 hks p1 (λW2 p4=>?_)
       obtain⟨v,h1,h2⟩:=results_run (fn:=fn) (tmps:=a'.tmps) (show RelT ρ' s2.A e.nt a'.tmps by rw[e1];exact p2) p4.heap (by rw[f5];exact hres)
       exact⟨v,h1,v,rfl,ret_ok h p4 hH (by rw[e2];exact hf') h2⟩
      cases x<;>first|(cases hx;done)|exact hleave
     ·cases h
    ·cases h
  ·cases h
def setPs(nt:Nat):List Tmp->List AV->T AV->Option (T AV)
 |p::ps,a::asg,A=>bif Nat.blt p nt then setPs nt ps asg (A.set p (some a))else none
 |_,_,A=>some A
theorem setPs_rel{ρ:Rho}{nt:Nat}:∀{ps:List Tmp}{asg:List AV}{vs:List Value}{A A':T AV}{tmps:Array Value},setPs nt ps asg A=some A'->RelL ρ asg vs->RelT ρ A nt tmps->RelT ρ A' nt ((ps.zip vs).foldl (λt(p,v)=>t.setIfInBounds p v) tmps)
 |[],asg,vs,A,A',tmps,h,_,hT=>by simp only[setPs]at h;cases h;simpa using hT
 |p::ps,[],vs,A,A',tmps,h,hv,hT=>by
  simp only[setPs]at h
  cases h
  rw[show vs=[]from hv]
  simpa using hT
 |p::ps,a::asg,vs,A,A',tmps,h,hv,hT=>by
  simp only[setPs]at h
  obtain⟨v,vs',h1,h2,rfl⟩:=hv
  cases hb:Nat.blt p nt with
  |false=>rw[hb]at h;cases h
  |true=>
   rw[hb,cond_true]at h
   show RelT ρ A' nt ((ps.zip vs').foldl (λt(p,v)=>t.setIfInBounds p v) (tmps.setIfInBounds p v))
   exact setPs_rel h h2 (hT.set (Nat.le_of_ble_eq_true hb) h1)
def jumpOf:Exit->Option (Option Code)
 | .normal=>some none
 | .ret=>some (some .ret)
 | .exit id=>some (some (.exit id))
 |_=>none
def endSt:Option Code->LoopState
 |none=>.ready
 |some _=>.done
def noneB:Option Code->Bool
 |none=>true
 |some _=>false
def recD(n:Nat)(l:ALoop):Option Code->Dl
 |none=>[]
 |some c=>[(n,some (.loop {l with st:=.done,pd:=some c}))]
def evYld2(k:Nat)(Hh:Hp)(n:Nat)(l:ALoop)(e:Exit)(s3:St):Option Rs:=match jumpOf e with
 |some j=>match retR k Hh s3 (.lit (.bool (noneB j)))with
  |some r=>some ⟨r.v,r.d++recD n l j,r.k⟩
  |none=>none
 |none=>none
def evYld1(P:Program)(hk:Hook)(ev:Ev)(n:Nat)(l:ALoop)(A0:T AV)(H:Hp)(k:Nat):Option Rs:=match l.st,l.pd with
 | .ready,none=>match(cmp P hk true l.assign).f ev k (hideN n H) l.nt ⟨A0,[],.e,k,[]⟩with
   |some (.normal,s1)=>match(cmp P hk true l.body).f ev k (hideN n H) l.nt s1 with
    |some (e,s3)=>evYld2 k (hideN n H) n l e s3
    |none=>none
   |_=>none
 |_,_=>none
def evYld(P:Program)(hk:Hook)(ev:Ev)(n:Nat)(args:List AV)(H:Hp)(k:Nat):Option Rs:=match H n with
 |some (.loop l)=>bif Nat.beq args.length l.ps.size then match setPs l.nt l.ps.toList args l.tmps with
  |some A0=>evYld1 P hk ev n l A0 H k
  |none=>none
  else none
 |_=>none
theorem ovr_append(d2 d1:Dl)(H:Hp):ovr (d2++d1) H=ovr d2 (ovr d1 H):=by
 funext n
 unfold ovr
 rw[look_append]
 cases look d2 n<;>rfl
theorem evYld2_ok{k:Nat}{H:Hp}{n:Nat}{l:ALoop}{e:Exit}{s3:St}{r:Rs}(hks:k<=s3.k)(hl:H n=some (.loop l))(hst:l.st=.ready)(hpd:l.pd=none)(h:evYld2 k (hideN n H) n l e s3=some r):r.k=s3.k/\Touch H r.d k r.k/\
 ∀{P:Program}{N:Nat}{ρ ρ':Rho}{W W':World}{b κ:Nat}{fn:FuncId}{tmps:Array Value}{d:Nat},RelH N ρ H W->Free ρ k s3.k->ρ n=some (b,κ)->W.heap[b]? =some (.loop {state:=.ready,pending:=none,fn,tmps,params:=l.ps,assign:=l.assign,body:=l.body,defers:=d})->RelT ρ l.tmps l.nt tmps->ρ.le ρ'->(∀m,¬(k<=m/\m<s3.k)->ρ' m=ρ m)->RelH N ρ' (s3.hp k (hideN n H)) W'->
  W'.os=W.os->W'.tape=W.tape->W'.output=W.output->W.heap.size<=W'.heap.size->(∀c,c<W.heap.size->c≠b->¬InH ρ (cutH k (hideN n H)) c->W'.heap[c]? =W.heap[c]?)->(∀c,InH ρ' (s3.hp k (hideN n H)) c->InH ρ (cutH k (hideN n H)) c\/W.heap.size<=c)->
  W'.heap[b]? =some (.loop {state:=.busy,pending:=none,fn,tmps,params:=l.ps,assign:=l.assign,body:=l.body,defers:=d})->∀a':Act,roundPost P b (λe W'=>∃v,e=.returned v/\Out N ρ H W k r v W') e a' W':=by
 unfold evYld2 at h
 split at h
 ·rename_i j hj
  split at h
  ·rename_i r0 hr0
   cases h
   obtain⟨r1,r2⟩:=retR_is hr0
   have hln:H n≠none:=by rw[hl];simp
   refine⟨r1,λm hm=>?_,λ{P N ρ ρ' W W' b κ fn tmps d}hH hf hr hb0 hT hle honly hH' hos htape hout hsz hkeep hfrom hb a'=>?_⟩
   ·have hm:look (r0.d++recD n l j) m≠none:=hm
    rw[look_append]at hm
    cases hx:look r0.d m with
    |some x=>exact(r2.sub (hideN_sub n H)) m (by rw[hx];simp)
    |none=>
     rw[hx]at hm
     left
     cases j with
     |none=>exact absurd rfl hm
     |some c=>
      simp only[recD]at hm
      rw[look_cons]at hm
      by_cases e:m=n
      ·rw[e];exact hln
      ·rw[if_neg e]at hm;exact absurd rfl hm
   have hblt:b<W.heap.size:=(Array.getElem?_eq_some_iff.1 hb0).1
   have hnot:¬InH ρ (hideN n H) b:=λ⟨m,κ',hm,hmb⟩=>hideN_ne hm (hH.inj m n b κ' κ ((hideN_sub n H).live hm) hln hmb hr)
   have hnotc:¬InH ρ (cutH k (hideN n H)) b:=λ⟨m,κ',hm,hmb⟩=>hnot ⟨m,κ',(cutH_sub k _).live hm,hmb⟩
   have hnot3:¬InH ρ' (s3.hp k (hideN n H)) b:=λhi=>by
    rcases hfrom b hi with h1|h1
    ·exact hnotc h1
    ·omega
   obtain⟨X,hX⟩:∃X:Obj,X=.loop {state:=endSt j,pending:=j,fn,tmps,params:=l.ps,assign:=l.assign,body:=l.body,defers:=d}:=⟨_,rfl⟩
   have hgb:=gr_putObj W b X
   have hg3:=gr_putObj W' b X
   have hlt':b<W'.heap.size:=by omega
   have hXb:(W.putObj b X).heap[b]? =some X:=World.putObj_heap_same hblt
   have hXb':(W'.putObj b X).heap[b]? =some X:=World.putObj_heap_same hlt'
   have hp:Post N ρ (cutH k (hideN n H)) (W.putObj b X) (s3.hp k (hideN n H)) k s3.k ρ' (W'.putObj b X):=
    ⟨hle,honly,hH'.grown hg3 hnot3,⟨hg3.os.trans (hos.trans hgb.os.symm),hg3.tape.trans (htape.trans hgb.tape.symm),hg3.output.trans (hout.trans hgb.output.symm),by simpa using hsz,λc hc hi=>by
      have hc:c<W.heap.size:=by simpa using hc
      by_cases e:c=b
      ·rw[e,hXb,hXb']
      ·rw[hg3.block c (by omega) (λe2=>e (by cases e2;rfl)),hgb.block c hc (λe2=>e (by cases e2;rfl))]
       exact hkeep c hc e hi⟩,λc hc=>(hfrom c hc).imp id (λh=>by simpa using h)⟩
   have hHb:RelH N ρ (hideN n H) (W.putObj b X):=(hH.sub (hideN_sub n H)).grown hgb hnot
   have ho:=ret_ok hr0 hp hHb hf rfl
   have hl':RelO ρ (W.putObj b X) b κ (.loop {l with st:=endSt j,pd:=j}):=⟨fn,tmps,d,by rw[hXb,hX],hT⟩
   have hw:=Post.write (k:=k) hH hln hr hgb hl'
   have ho2:=ho.frame (G:=upH H n (some (.loop {l with st:=endSt j,pd:=j}))) (λm o hm=>by
    rw[upH_ne (hideN_ne (by rw[hm];simp))]
    exact hideN_sub n H m o hm) hw.heap r2 (by rw[r1];exact hf)
   have hout2:Out N ρ H W k ⟨r0.v,r0.d++recD n l j,r0.k⟩ (.bool (noneB j)) (W'.putObj b X):=by
    obtain⟨ρ2,p1,p2⟩:=ho2
    refine⟨ρ2,?_,p2⟩
    have e1:ovr (recD n l j) H=upH H n (some (.loop {l with st:=endSt j,pd:=j})):=by
     cases j with
     |none=>
      funext m
      show H m=_
      by_cases e:m=n
      ·rw[e,upH_same,hl,show endSt none=LoopState.ready from rfl,<-hst,<-hpd]
      ·rw[upH_ne e]
     |some c=>
      show ovr [(n,_)] H=_
      rw[app_cons,app_nil]
      rfl
    show Post N ρ H W (ovr (r0.d++recD n l j) H) k r0.k ρ2 _
    rw[ovr_append,e1]
    exact hw.trans p1 (Nat.le_refl _) (by rw[r1];exact(show k<=s3.k from hks))
   have hend:=run_endRound (P:=P) j hb
   have e1:(if j.isNone then LoopState.ready else LoopState.done)=endSt j:=by cases j<;>rfl
   have e2:j.isNone=noneB j:=by cases j<;>rfl
   rw[e1,e2]at hend
   rw[hX]at hout2
   cases e with
   |normal=>cases hj;exact⟨_,_,hend,_,rfl,hout2⟩
   |ret=>cases hj;exact⟨_,_,hend,_,rfl,hout2⟩
   |exit id=>cases hj;exact⟨_,_,hend,_,rfl,hout2⟩
   |goto l=>cases hj
   |panic c=>cases hj
   |outgrown=>cases hj
  ·cases h
 ·cases h
theorem evYld_ok{P:Program}{hk:Hook}(hhk:HookOk P hk){ev:Ev}(hev:EvOk P ev)(hm:P.follows .mixedOrders=true){n:Nat}{args:List AV}{H:Hp}{k:Nat}{r:Rs}(h:evYld P hk ev n args H k=some r):TgtOk P (.yld n) args H k r:=by
 unfold evYld at h
 split at h
 ·rename_i l hl
  cases hb:Nat.beq args.length l.ps.size with
  |false=>rw[hb]at h;cases h
  |true=>
   rw[hb,cond_true]at h
   have hb:=Nat.eq_of_beq_eq_true hb
   split at h
   ·rename_i A0 hA0
    unfold evYld1 at h
    split at h
    ·rename_i hst hpd
     split at h
     ·rename_i s1 hc1
      obtain⟨hk1,hcode1⟩:=code_ok hhk hev hm _ _ _ _ hc1
      have hk1:k<=s1.k:=hk1
      split at h
      ·rename_i e s3 hc3
       obtain⟨hk3,hcode3⟩:=code_ok hhk hev hm _ _ _ _ hc3
       obtain⟨r1,r2,r3⟩:=evYld2_ok (by omega) hl hst hpd h
       refine⟨by rw[r1];omega,r2,λ{N ρ W vs}hH hargs hf b κ hbr R m=>?_⟩
       rw[r1]at hf
       obtain⟨b',κ',g1,_,fn,tmps,d,g2,g3⟩:=hH.obj n _ hl
       rw[hbr]at g1
       cases g1
       have hblt:b<W.heap.size:=(Array.getElem?_eq_some_iff.1 g2).1
       have hln:H n≠none:=by rw[hl];simp
       have hnotc:¬InH ρ (cutH k (hideN n H)) b:=λ⟨m,κ',hm,hmb⟩=>hideN_ne ((cutH_sub k _).live hm) (hH.inj m n b κ' κ ((hideN_sub n H).live ((cutH_sub k _).live hm)) hln hmb hbr)
       have hsz:vs.toArray.size=l.ps.size:=by
        have:=hargs.len
        simp
        omega
       refine⟨fn,_,l.assign,l.body,run_yield g2 hsz,roundIn_of_wpIn (fc_fn R fn) ?_⟩
       rw[fc_in]
       rw[hst,hpd]at g2
       have hT:RelT ρ A0 l.nt ((l.ps.zip vs.toArray).foldl (λtmps(t,a)=>tmps.setIfInBounds t a) tmps):=by
        have:=setPs_rel hA0 hargs g3
        rw[<-Array.foldl_toList,Array.toList_zip]
        exact this
       have hst1:StR N k l.nt (hideN n H) ρ ⟨A0,[],.e,k,[]⟩ {tmps:=(l.ps.zip vs.toArray).foldl (λtmps(t,a)=>tmps.setIfInBounds t a) tmps,defers:=[]} W:=⟨(hH.sub (hideN_sub n H)).sub (cutH_sub k _),hT,rfl⟩
       refine hcode1 (some b) m (λh=>by cases h) hst1 (hf.sub (Nat.le_refl _) hk3) _ (λa1 W1 hends1=>?_)
       obtain⟨ρ1,p1,p2,p3⟩:=hends1
       have p1:Post N ρ (cutH k (hideN n H)) W (s1.hp k (hideN n H)) k s1.k ρ1 W1:=p1
       have hnot1:¬InH ρ1 (s1.hp k (hideN n H)) b:=λhi=>by
        rcases p1.from_ b hi with h1|h1
        ·exact hnotc h1
        ·omega
       have q1:=(p1.keep.block b hblt hnotc).trans g2
       refine⟨_,run_beginRound q1 rfl,?_⟩
       have hblt1:b<W1.heap.size:=(Array.getElem?_eq_some_iff.1 q1).1
       have hgb:=gr_putObj W1 b (.loop {state:=.busy,pending:=none,fn,tmps,params:=l.ps,assign:=l.assign,body:=l.body,defers:=d})
       refine hcode3 (some b) m (λh=>by cases h) ⟨p1.heap.grown hgb hnot1,p2,p3⟩ (hf.post p1 hk1) _ (λa3 W3 hends3=>?_)
       obtain⟨ρ3,z1,z2,z3⟩:=hends3
       refine r3 hH hf hbr g2 g3 (p1.le.trans z1.le) (λm hm=>(z1.only m (by omega)).trans (p1.only m (by omega))) z1.heap (z1.keep.os.trans (hgb.os.trans p1.keep.os)) (z1.keep.tape.trans (hgb.tape.trans p1.keep.tape)) (z1.keep.output.trans (hgb.output.trans p1.keep.output)) (Nat.le_trans p1.keep.size (Nat.le_trans hgb.size z1.keep.size)) (λc hc hcb hi=>?_) (λc hc=>?_) ?_ a3
       ·rw[z1.keep.block c (by have:=p1.keep.size;have:=hgb.size;omega) (λhi1=>by
         rcases p1.from_ c hi1 with h1|h1
         ·exact hi h1
         ·omega),hgb.block c (by have:=p1.keep.size;omega) (λe2=>hcb (by cases e2;rfl))]
        exact p1.keep.block c hc hi
       ·rcases z1.from_ c hc with h1|h1
        ·exact p1.from_ c h1
        ·right;have:=p1.keep.size;have:=hgb.size;omega
       ·exact(z1.keep.block b (by have:=hgb.size;omega) hnot1).trans (World.putObj_heap_same hblt1)
      ·cases h
     ·cases h
    ·cases h
   ·cases h
 ·cases h
abbrev Orc:=Nat->Option (List AV->Hp->Nat->Option Rs)
def evT(P:Program)(hk:Hook)(tbl:Nat->Option FnE)(orc:Orc)(ev:Ev):Ev:=λt args H k=>match t with
 | .fn f=>match orc f with
   |some g=>g args H k
   |none=>match tbl f with
    |some e=>evFn P hk ev e args H k
    |none=>none
 | .yld n=>evYld P hk ev n args H k
def evN(P:Program)(hk:Hook)(tbl:Nat->Option FnE)(orc:Orc):Nat->Ev
 |0=>λ_ _ _ _=>none
 |d+1=>evT P hk tbl orc (evN P hk tbl orc d)
def OrcOk(P:Program)(orc:Orc):Prop:=∀f g,orc f=some g->∀args H k r,g args H k=some r->TgtOk P (.fn f) args H k r
def TblOk(P:Program)(tbl:Nat->Option FnE):Prop:=∀f e,tbl f=some e->FnOk P f e
theorem evN_ok{P:Program}{hk:Hook}(hhk:HookOk P hk){tbl:Nat->Option FnE}{orc:Orc}(hP:P=Tryz.prog)(hm:P.follows .mixedOrders=true)(ht:TblOk P tbl)(ho:OrcOk P orc):∀d,EvOk P (evN P hk tbl orc d)
 |0=>⟨hP,λt args H k r h=>by cases h⟩
 |d+1=>⟨hP,λt args H k r h=>by
  have hev:=evN_ok hhk hP hm ht ho d
  simp only[evN,evT]at h
  cases t with
  |fn f=>
   simp only at h
   split at h
   ·rename_i g hg
    exact ho f g hg args H k r h
   ·split at h
    ·rename_i e he
     exact evFn_ok hhk hev hm (ht f e he) h
    ·cases h
  |yld n=>exact evYld_ok hhk hev hm h⟩
def fe(f:Func):FnE:=⟨f.body.getD .skip,f.ntmps,f.results.toList⟩
def mkTbl:List (Nat×FnE)->T FnE
 |[]=>.e
 |(n,e)::l=>(mkTbl l).set n (some e)
theorem mkTbl_mem{n:Nat}{e:FnE}:∀{l:List (Nat×FnE)},(mkTbl l).get n=some e->(n,e)∈l
 |[],h=>by cases h
 |(m,x)::l,h=>by
  rw[mkTbl,T.get_set]at h
  by_cases c:n=m
  ·rw[if_pos c]at h;cases h;rw[c];exact List.mem_cons_self ..
  ·rw[if_neg c]at h;exact List.mem_cons_of_mem _ (mkTbl_mem h)
theorem tbl_ok{P:Program}{l:List (Nat×FnE)}(h:∀p∈l,FnOk P p.1 p.2):TblOk P (mkTbl l).get:=λf e he=>h (f,e) (mkTbl_mem he)
theorem fnOk{P:Program}{n:Nat}{f:Func}(h:P.funcs[n]? =some f) (hb:f.body.isSome=true) (hc:∀(args:Array Value)(W:World),(callFunc n args).run P W=.ok (.enter n args) W):FnOk P n (fe f):=by
 refine⟨f,h,?_,hc,rfl,rfl⟩
 unfold fe
 cases hx:f.body with
 |none=>rw[hx]at hb;cases hb
 |some c=>rfl
theorem fnC{P:Program}{p:Nat×FnE}{l:List (Nat×FnE)}(h:FnOk P p.1 p.2)(h':∀q∈l,FnOk P q.1 q.2):∀q∈p::l,FnOk P q.1 q.2:=λq hq=>by
 rcases List.mem_cons.1 hq with rfl|hq
 ·exact h
 ·exact h' q hq
theorem fns_nil{P:Program}:∀q∈([]:List (Nat×FnE)),FnOk P q.1 q.2:=λq hq=>by cases hq
theorem reckon{P:Program}{hk:Hook}(hhk:HookOk P hk){tbl:Nat->Option FnE}{orc:Orc}(hP:P=Tryz.prog)(hm:P.follows .mixedOrders=true)(ht:TblOk P tbl)(ho:OrcOk P orc){d f:Nat}{args:List Value}{v:Value}(h:(match evN P hk tbl orc d (.fn f) (args.map .lit) (λ_=>none) 0 with|some ⟨.lit u,_,_⟩=>some u|_=>none)=some v)(W:World):
 Calls P f args.toArray W (λe W'=>e=.returned v/\Gr W W'):=by
 cases hx:evN P hk tbl orc d (.fn f) (args.map .lit) (λ_=>none) 0 with
 |none=>rw[hx]at h;cases h
 |some r=>
  rw[hx]at h
  have hr:=(evN_ok hhk hP hm ht ho d).2 _ _ _ _ _ hx
  obtain⟨_,h1⟩:=hr.does (N:=W.heap.size) (ρ:=λ_=>none) (W:=W) (vs:=args) ⟨(λn o ho=>by cases ho),(λn m b κ κ' hn=>absurd rfl hn),Nat.le_refl _⟩ (RelL.lits args) (λ_ _ _=>rfl)
  refine h1.mono (λe W' he=>?_)
  obtain⟨u,rfl,ρ',p1,p2⟩:=he
  obtain⟨rv,rd,rk⟩:=r
  cases rv with
  |lit x=>
   cases h
   have hu:u=v:=p2
   refine⟨by rw[hu],⟨p1.keep.os,p1.keep.tape,p1.keep.output,p1.keep.size,λb hb=>p1.keep.block b hb (λ⟨n,κ,hn,_⟩=>hn rfl)⟩⟩
  |_=>cases h
end
end Go.Proofs.YtifehdoghfnhoaaGreatDoor.Ev
namespace Go.Proofs.YtifehdoghfnhoaaGreatDoor.Ev
open Go.RowKit Go.Shelf
set_option maxRecDepth 100000 in
noncomputable def fnsL:List (Nat×FnE):=
 (243,fe Tryz.f243)::
 (332,fe Tryz.f332)::
 (247,fe Tryz.f247)::
 (333,fe Tryz.f333)::
 (331,fe Tryz.f331)::
 (246,fe Tryz.f246)::
 (244,fe Tryz.f244)::
 (245,fe Tryz.f245)::
 (334,fe Tryz.f334)::
 (249,fe Tryz.f249)::
 (335,fe Tryz.f335)::
 (58,fe Tryz.f58)::
 (29,fe Tryz.f29)::
 (54,fe Tryz.f54)::
 (106,fe Tryz.f106)::
 (32,fe Tryz.f32)::
 (42,fe Tryz.f42)::
 (41,fe Tryz.f41)::
 (100,fe Tryz.f100)::
 (175,fe Tryz.f175)::
 (267,fe Tryz.f267)::
 (55,fe Tryz.f55)::
 (103,fe Tryz.f103)::
 (223,fe Tryz.f223)::
 (222,fe Tryz.f222)::
 (311,fe Tryz.f311)::
 (312,fe Tryz.f312)::
 (228,fe Tryz.f228)::
 (319,fe Tryz.f319)::
 (322,fe Tryz.f322)::
 (224,fe Tryz.f224)::
 (227,fe Tryz.f227)::
 (316,fe Tryz.f316)::
 (318,fe Tryz.f318)::
 (314,fe Tryz.f314)::
 (363,fe Tryz.f363)::
 (226,fe Tryz.f226)::
 (320,fe Tryz.f320)::
 (190,fe Tryz.f190)::
 (275,fe Tryz.f275)::
 (187,fe Tryz.f187)::
 (193,fe Tryz.f193)::
 (279,fe Tryz.f279)::
 (96,fe Tryz.f96)::
 (188,fe Tryz.f188)::
 (270,fe Tryz.f270)::
 (97,fe Tryz.f97)::
 (189,fe Tryz.f189)::
 (354,fe Tryz.f354)::
 (114,fe Tryz.f114)::
 (116,fe Tryz.f116)::
 (269,fe Tryz.f269)::
 (115,fe Tryz.f115)::
 (211,fe Tryz.f211)::
 (212,fe Tryz.f212)::
 (213,fe Tryz.f213)::
 (375,fe Tryz.f375)::
 (293,fe Tryz.f293)::
 (383,fe Tryz.f383)::
 (357,fe Tryz.f357)::
 (146,fe Tryz.f146)::
 (240,fe Tryz.f240)::
 (328,fe Tryz.f328)::
 (366,fe Tryz.f366)::
 (152,fe Tryz.f152)::
 (248,fe Tryz.f248)::
 (327,fe Tryz.f327)::
 (155,fe Tryz.f155)::
 (150,fe Tryz.f150)::
 (149,fe Tryz.f149)::
 (151,fe Tryz.f151)::
 (154,fe Tryz.f154)::
 (148,fe Tryz.f148)::
 (337,fe Tryz.f337)::
 (250,fe Tryz.f250)::
 (336,fe Tryz.f336)::
 (239,fe Tryz.f239)::
 (241,fe Tryz.f241)::
 (329,fe Tryz.f329)::
 (218,fe Tryz.f218)::
 (60,fe Tryz.f60)::
 (143,fe Tryz.f143)::
 (131,fe Tryz.f131)::
 (219,fe Tryz.f219)::
 (135,fe Tryz.f135)::
 (230,fe Tryz.f230)::
 (140,fe Tryz.f140)::
 (128,fe Tryz.f128)::
 (231,fe Tryz.f231)::
 (129,fe Tryz.f129)::
 (238,fe Tryz.f238)::
 (237,fe Tryz.f237)::
 (157,fe Tryz.f157)::
 (61,fe Tryz.f61)::
 (153,fe Tryz.f153)::
 (147,fe Tryz.f147)::
 (144,fe Tryz.f144)::
 (145,fe Tryz.f145)::
 (74,fe Tryz.f74)::
 (75,fe Tryz.f75)::
 (23,fe Tryz.f23)::
 (37,fe Tryz.f37)::
 (63,fe Tryz.f63)::
 (76,fe Tryz.f76)::
 (69,fe Tryz.f69)::
 (66,fe Tryz.f66)::
 (64,fe Tryz.f64)::
 (93,fe Tryz.f93)::
 (91,fe Tryz.f91)::
 (184,fe Tryz.f184)::
 (38,fe Tryz.f38)::
 (80,fe Tryz.f80)::
 (92,fe Tryz.f92)::
 (81,fe Tryz.f81)::
 (79,fe Tryz.f79)::
 (78,fe Tryz.f78)::
 (325,fe Tryz.f325)::
 (233,fe Tryz.f233)::
 (232,fe Tryz.f232)::
 (142,fe Tryz.f142)::
 (141,fe Tryz.f141)::
 (234,fe Tryz.f234)::
 (236,fe Tryz.f236)::
 (326,fe Tryz.f326)::
 (365,fe Tryz.f365)::
 (324,fe Tryz.f324)::
 (235,fe Tryz.f235)::
 (253,fe Tryz.f253)::
 (340,fe Tryz.f340)::
 (156,fe Tryz.f156)::
 (339,fe Tryz.f339)::
 (341,fe Tryz.f341)::
 (252,fe Tryz.f252)::
 (73,fe Tryz.f73)::
 (21,fe Tryz.f21)::
 (77,fe Tryz.f77)::
 (183,fe Tryz.f183)::
 (6,fe Tryz.f6)::
 (182,fe Tryz.f182)::
 (196,fe Tryz.f196)::
 (14,fe Tryz.f14)::
 (94,fe Tryz.f94)::
 (350,fe Tryz.f350)::
 (280,fe Tryz.f280)::
 (195,fe Tryz.f195)::
 (281,fe Tryz.f281)::
 (16,fe Tryz.f16)::
 (194,fe Tryz.f194)::
 (5,fe Tryz.f5)::
 (36,fe Tryz.f36)::
 (13,fe Tryz.f13)::
 (15,fe Tryz.f15)::
 (10,fe Tryz.f10)::
 (67,fe Tryz.f67)::
 (68,fe Tryz.f68)::
 (173,fe Tryz.f173)::
 (65,fe Tryz.f65)::
 (12,fe Tryz.f12)::
 (34,fe Tryz.f34)::
 (178,fe Tryz.f178)::
 (7,fe Tryz.f7)::
 (70,fe Tryz.f70)::
 (177,fe Tryz.f177)::
 (22,fe Tryz.f22)::
 (24,fe Tryz.f24)::
 (72,fe Tryz.f72)::
 (71,fe Tryz.f71)::
 (176,fe Tryz.f176)::
 (104,fe Tryz.f104)::
 (105,fe Tryz.f105)::
 (35,fe Tryz.f35)::
 (52,fe Tryz.f52)::
 (28,fe Tryz.f28)::
 (48,fe Tryz.f48)::
 (180,fe Tryz.f180)::
 (46,fe Tryz.f46)::
 (112,fe Tryz.f112)::
 (132,fe Tryz.f132)::
 (221,fe Tryz.f221)::
 (308,fe Tryz.f308)::
 (134,fe Tryz.f134)::
 (229,fe Tryz.f229)::
 (130,fe Tryz.f130)::
 (137,fe Tryz.f137)::
 (133,fe Tryz.f133)::
 (136,fe Tryz.f136)::
 (139,fe Tryz.f139)::
 (138,fe Tryz.f138)::
 (315,fe Tryz.f315)::
 (321,fe Tryz.f321)::
 (310,fe Tryz.f310)::
 (309,fe Tryz.f309)::
 (317,fe Tryz.f317)::
 (220,fe Tryz.f220)::
 (323,fe Tryz.f323)::
 (364,fe Tryz.f364)::
 (225,fe Tryz.f225)::
 (313,fe Tryz.f313)::
 (90,fe Tryz.f90)::
 (19,fe Tryz.f19)::
 (197,fe Tryz.f197)::
 (282,fe Tryz.f282)::
 (283,fe Tryz.f283)::
 (285,fe Tryz.f285)::
 (83,fe Tryz.f83)::
 (89,fe Tryz.f89)::
 (84,fe Tryz.f84)::
 (85,fe Tryz.f85)::
 (86,fe Tryz.f86)::
 (18,fe Tryz.f18)::
 (87,fe Tryz.f87)::
 (88,fe Tryz.f88)::
 (192,fe Tryz.f192)::
 (82,fe Tryz.f82)::
 (186,fe Tryz.f186)::
 (271,fe Tryz.f271)::
 (39,fe Tryz.f39)::
 (40,fe Tryz.f40)::
 (95,fe Tryz.f95)::
 (185,fe Tryz.f185)::
 (198,fe Tryz.f198)::
 (286,fe Tryz.f286)::
 (306,fe Tryz.f306)::
 (307,fe Tryz.f307)::
 (362,fe Tryz.f362)::
 (217,fe Tryz.f217)::
 (304,fe Tryz.f304)::
 (203,fe Tryz.f203)::
 (296,fe Tryz.f296)::
 (297,fe Tryz.f297)::
 (266,fe Tryz.f266)::
 (268,fe Tryz.f268)::
 (347,fe Tryz.f347)::
 (276,fe Tryz.f276)::
 (179,fe Tryz.f179)::
 (174,fe Tryz.f174)::
 (274,fe Tryz.f274)::
 (272,fe Tryz.f272)::
 (251,fe Tryz.f251)::
 (99,fe Tryz.f99)::
 (284,fe Tryz.f284)::
 (367,fe Tryz.f367)::
 (242,fe Tryz.f242)::
 (33,fe Tryz.f33)::
 (108,fe Tryz.f108)::
 (53,fe Tryz.f53)::
 (206,fe Tryz.f206)::
 (47,fe Tryz.f47)::
 (101,fe Tryz.f101)::
 (98,fe Tryz.f98)::
 (191,fe Tryz.f191)::
 (181,fe Tryz.f181)::
 (348,fe Tryz.f348)::
 (338,fe Tryz.f338)::
 (200,fe Tryz.f200)::
 (351,fe Tryz.f351)::
 (379,fe Tryz.f379)::
 (330,fe Tryz.f330)::
 (59,fe Tryz.f59)::
 (208,fe Tryz.f208)::
 (127,fe Tryz.f127)::
 (278,fe Tryz.f278)::
 (113,fe Tryz.f113)::
 (201,fe Tryz.f201)::
 (199,fe Tryz.f199)::
 (205,fe Tryz.f205)::
 (204,fe Tryz.f204)::
 (277,fe Tryz.f277)::
 (102,fe Tryz.f102)::
 (273,fe Tryz.f273)::
 (371,fe Tryz.f371)::
 (289,fe Tryz.f289)::
 (372,fe Tryz.f372)::
 (290,fe Tryz.f290)::
 (370,fe Tryz.f370)::
 (288,fe Tryz.f288)::
 (369,fe Tryz.f369)::
 (287,fe Tryz.f287)::
 (381,fe Tryz.f381)::
 (355,fe Tryz.f355)::
 (382,fe Tryz.f382)::
 (356,fe Tryz.f356)::
 (353,fe Tryz.f353)::
 (384,fe Tryz.f384)::
 (378,fe Tryz.f378)::
 (374,fe Tryz.f374)::
 (292,fe Tryz.f292)::
 (376,fe Tryz.f376)::
 (294,fe Tryz.f294)::
 (377,fe Tryz.f377)::
 (295,fe Tryz.f295)::
 (349,fe Tryz.f349)::
 (202,fe Tryz.f202)::
 (373,fe Tryz.f373)::
 (291,fe Tryz.f291)::
 (380,fe Tryz.f380)::
 (352,fe Tryz.f352)::
 (215,fe Tryz.f215)::
 (51,fe Tryz.f51)::
 (126,fe Tryz.f126)::
 (359,fe Tryz.f359)::
 (302,fe Tryz.f302)::
 (49,fe Tryz.f49)::
 (50,fe Tryz.f50)::
 (119,fe Tryz.f119)::
 (120,fe Tryz.f120)::
 (117,fe Tryz.f117)::
 (122,fe Tryz.f122)::
 (121,fe Tryz.f121)::
 (118,fe Tryz.f118)::
 (123,fe Tryz.f123)::
 (216,fe Tryz.f216)::
 (214,fe Tryz.f214)::
 (124,fe Tryz.f124)::
 (303,fe Tryz.f303)::
 (360,fe Tryz.f360)::
 (301,fe Tryz.f301)::
  []
noncomputable def fnT:T FnE:=mkTbl fnsL
theorem fnOk243:FnOk Tryz.prog 243 (fe Tryz.f243):=fnOk Tryz.func243 (by kernel_rfl) Tryz.call243
theorem fnOk332:FnOk Tryz.prog 332 (fe Tryz.f332):=fnOk Tryz.func332 (by kernel_rfl) Tryz.call332
theorem fnOk247:FnOk Tryz.prog 247 (fe Tryz.f247):=fnOk Tryz.func247 (by kernel_rfl) Tryz.call247
theorem fnOk333:FnOk Tryz.prog 333 (fe Tryz.f333):=fnOk Tryz.func333 (by kernel_rfl) Tryz.call333
theorem fnOk331:FnOk Tryz.prog 331 (fe Tryz.f331):=fnOk Tryz.func331 (by kernel_rfl) Tryz.call331
theorem fnOk246:FnOk Tryz.prog 246 (fe Tryz.f246):=fnOk Tryz.func246 (by kernel_rfl) Tryz.call246
theorem fnOk244:FnOk Tryz.prog 244 (fe Tryz.f244):=fnOk Tryz.func244 (by kernel_rfl) Tryz.call244
theorem fnOk245:FnOk Tryz.prog 245 (fe Tryz.f245):=fnOk Tryz.func245 (by kernel_rfl) Tryz.call245
theorem fnOk334:FnOk Tryz.prog 334 (fe Tryz.f334):=fnOk Tryz.func334 (by kernel_rfl) Tryz.call334
theorem fnOk249:FnOk Tryz.prog 249 (fe Tryz.f249):=fnOk Tryz.func249 (by kernel_rfl) Tryz.call249
theorem fnOk335:FnOk Tryz.prog 335 (fe Tryz.f335):=fnOk Tryz.func335 (by kernel_rfl) Tryz.call335
theorem fnOk58:FnOk Tryz.prog 58 (fe Tryz.f58):=fnOk Tryz.func58 (by kernel_rfl) Tryz.call58
theorem fnOk29:FnOk Tryz.prog 29 (fe Tryz.f29):=fnOk Tryz.func29 (by kernel_rfl) Tryz.call29
theorem fnOk54:FnOk Tryz.prog 54 (fe Tryz.f54):=fnOk Tryz.func54 (by kernel_rfl) Tryz.call54
theorem fnOk106:FnOk Tryz.prog 106 (fe Tryz.f106):=fnOk Tryz.func106 (by kernel_rfl) Tryz.call106
theorem fnOk32:FnOk Tryz.prog 32 (fe Tryz.f32):=fnOk Tryz.func32 (by kernel_rfl) Tryz.call32
theorem fnOk42:FnOk Tryz.prog 42 (fe Tryz.f42):=fnOk Tryz.func42 (by kernel_rfl) Tryz.call42
theorem fnOk41:FnOk Tryz.prog 41 (fe Tryz.f41):=fnOk Tryz.func41 (by kernel_rfl) Tryz.call41
theorem fnOk100:FnOk Tryz.prog 100 (fe Tryz.f100):=fnOk Tryz.func100 (by kernel_rfl) Tryz.call100
theorem fnOk175:FnOk Tryz.prog 175 (fe Tryz.f175):=fnOk Tryz.func175 (by kernel_rfl) Tryz.call175
theorem fnOk267:FnOk Tryz.prog 267 (fe Tryz.f267):=fnOk Tryz.func267 (by kernel_rfl) Tryz.call267
theorem fnOk55:FnOk Tryz.prog 55 (fe Tryz.f55):=fnOk Tryz.func55 (by kernel_rfl) Tryz.call55
theorem fnOk103:FnOk Tryz.prog 103 (fe Tryz.f103):=fnOk Tryz.func103 (by kernel_rfl) Tryz.call103
theorem fnOk223:FnOk Tryz.prog 223 (fe Tryz.f223):=fnOk Tryz.func223 (by kernel_rfl) Tryz.call223
theorem fnOk222:FnOk Tryz.prog 222 (fe Tryz.f222):=fnOk Tryz.func222 (by kernel_rfl) Tryz.call222
theorem fnOk311:FnOk Tryz.prog 311 (fe Tryz.f311):=fnOk Tryz.func311 (by kernel_rfl) Tryz.call311
theorem fnOk312:FnOk Tryz.prog 312 (fe Tryz.f312):=fnOk Tryz.func312 (by kernel_rfl) Tryz.call312
theorem fnOk228:FnOk Tryz.prog 228 (fe Tryz.f228):=fnOk Tryz.func228 (by kernel_rfl) Tryz.call228
theorem fnOk319:FnOk Tryz.prog 319 (fe Tryz.f319):=fnOk Tryz.func319 (by kernel_rfl) Tryz.call319
theorem fnOk322:FnOk Tryz.prog 322 (fe Tryz.f322):=fnOk Tryz.func322 (by kernel_rfl) Tryz.call322
theorem fnOk224:FnOk Tryz.prog 224 (fe Tryz.f224):=fnOk Tryz.func224 (by kernel_rfl) Tryz.call224
theorem fnOk227:FnOk Tryz.prog 227 (fe Tryz.f227):=fnOk Tryz.func227 (by kernel_rfl) Tryz.call227
theorem fnOk316:FnOk Tryz.prog 316 (fe Tryz.f316):=fnOk Tryz.func316 (by kernel_rfl) Tryz.call316
theorem fnOk318:FnOk Tryz.prog 318 (fe Tryz.f318):=fnOk Tryz.func318 (by kernel_rfl) Tryz.call318
theorem fnOk314:FnOk Tryz.prog 314 (fe Tryz.f314):=fnOk Tryz.func314 (by kernel_rfl) Tryz.call314
theorem fnOk363:FnOk Tryz.prog 363 (fe Tryz.f363):=fnOk Tryz.func363 (by kernel_rfl) Tryz.call363
theorem fnOk226:FnOk Tryz.prog 226 (fe Tryz.f226):=fnOk Tryz.func226 (by kernel_rfl) Tryz.call226
theorem fnOk320:FnOk Tryz.prog 320 (fe Tryz.f320):=fnOk Tryz.func320 (by kernel_rfl) Tryz.call320
theorem fnOk190:FnOk Tryz.prog 190 (fe Tryz.f190):=fnOk Tryz.func190 (by kernel_rfl) Tryz.call190
theorem fnOk275:FnOk Tryz.prog 275 (fe Tryz.f275):=fnOk Tryz.func275 (by kernel_rfl) Tryz.call275
theorem fnOk187:FnOk Tryz.prog 187 (fe Tryz.f187):=fnOk Tryz.func187 (by kernel_rfl) Tryz.call187
theorem fnOk193:FnOk Tryz.prog 193 (fe Tryz.f193):=fnOk Tryz.func193 (by kernel_rfl) Tryz.call193
theorem fnOk279:FnOk Tryz.prog 279 (fe Tryz.f279):=fnOk Tryz.func279 (by kernel_rfl) Tryz.call279
theorem fnOk96:FnOk Tryz.prog 96 (fe Tryz.f96):=fnOk Tryz.func96 (by kernel_rfl) Tryz.call96
theorem fnOk188:FnOk Tryz.prog 188 (fe Tryz.f188):=fnOk Tryz.func188 (by kernel_rfl) Tryz.call188
theorem fnOk270:FnOk Tryz.prog 270 (fe Tryz.f270):=fnOk Tryz.func270 (by kernel_rfl) Tryz.call270
theorem fnOk97:FnOk Tryz.prog 97 (fe Tryz.f97):=fnOk Tryz.func97 (by kernel_rfl) Tryz.call97
theorem fnOk189:FnOk Tryz.prog 189 (fe Tryz.f189):=fnOk Tryz.func189 (by kernel_rfl) Tryz.call189
theorem fnOk354:FnOk Tryz.prog 354 (fe Tryz.f354):=fnOk Tryz.func354 (by kernel_rfl) Tryz.call354
theorem fnOk114:FnOk Tryz.prog 114 (fe Tryz.f114):=fnOk Tryz.func114 (by kernel_rfl) Tryz.call114
theorem fnOk116:FnOk Tryz.prog 116 (fe Tryz.f116):=fnOk Tryz.func116 (by kernel_rfl) Tryz.call116
theorem fnOk269:FnOk Tryz.prog 269 (fe Tryz.f269):=fnOk Tryz.func269 (by kernel_rfl) Tryz.call269
theorem fnOk115:FnOk Tryz.prog 115 (fe Tryz.f115):=fnOk Tryz.func115 (by kernel_rfl) Tryz.call115
theorem fnOk211:FnOk Tryz.prog 211 (fe Tryz.f211):=fnOk Tryz.func211 (by kernel_rfl) Tryz.call211
theorem fnOk212:FnOk Tryz.prog 212 (fe Tryz.f212):=fnOk Tryz.func212 (by kernel_rfl) Tryz.call212
theorem fnOk213:FnOk Tryz.prog 213 (fe Tryz.f213):=fnOk Tryz.func213 (by kernel_rfl) Tryz.call213
theorem fnOk375:FnOk Tryz.prog 375 (fe Tryz.f375):=fnOk Tryz.func375 (by kernel_rfl) Tryz.call375
theorem fnOk293:FnOk Tryz.prog 293 (fe Tryz.f293):=fnOk Tryz.func293 (by kernel_rfl) Tryz.call293
theorem fnOk383:FnOk Tryz.prog 383 (fe Tryz.f383):=fnOk Tryz.func383 (by kernel_rfl) Tryz.call383
theorem fnOk357:FnOk Tryz.prog 357 (fe Tryz.f357):=fnOk Tryz.func357 (by kernel_rfl) Tryz.call357
theorem fnOk146:FnOk Tryz.prog 146 (fe Tryz.f146):=fnOk Tryz.func146 (by kernel_rfl) Tryz.call146
theorem fnOk240:FnOk Tryz.prog 240 (fe Tryz.f240):=fnOk Tryz.func240 (by kernel_rfl) Tryz.call240
theorem fnOk328:FnOk Tryz.prog 328 (fe Tryz.f328):=fnOk Tryz.func328 (by kernel_rfl) Tryz.call328
theorem fnOk366:FnOk Tryz.prog 366 (fe Tryz.f366):=fnOk Tryz.func366 (by kernel_rfl) Tryz.call366
theorem fnOk152:FnOk Tryz.prog 152 (fe Tryz.f152):=fnOk Tryz.func152 (by kernel_rfl) Tryz.call152
theorem fnOk248:FnOk Tryz.prog 248 (fe Tryz.f248):=fnOk Tryz.func248 (by kernel_rfl) Tryz.call248
theorem fnOk327:FnOk Tryz.prog 327 (fe Tryz.f327):=fnOk Tryz.func327 (by kernel_rfl) Tryz.call327
theorem fnOk155:FnOk Tryz.prog 155 (fe Tryz.f155):=fnOk Tryz.func155 (by kernel_rfl) Tryz.call155
theorem fnOk150:FnOk Tryz.prog 150 (fe Tryz.f150):=fnOk Tryz.func150 (by kernel_rfl) Tryz.call150
theorem fnOk149:FnOk Tryz.prog 149 (fe Tryz.f149):=fnOk Tryz.func149 (by kernel_rfl) Tryz.call149
theorem fnOk151:FnOk Tryz.prog 151 (fe Tryz.f151):=fnOk Tryz.func151 (by kernel_rfl) Tryz.call151
theorem fnOk154:FnOk Tryz.prog 154 (fe Tryz.f154):=fnOk Tryz.func154 (by kernel_rfl) Tryz.call154
theorem fnOk148:FnOk Tryz.prog 148 (fe Tryz.f148):=fnOk Tryz.func148 (by kernel_rfl) Tryz.call148
theorem fnOk337:FnOk Tryz.prog 337 (fe Tryz.f337):=fnOk Tryz.func337 (by kernel_rfl) Tryz.call337
theorem fnOk250:FnOk Tryz.prog 250 (fe Tryz.f250):=fnOk Tryz.func250 (by kernel_rfl) Tryz.call250
theorem fnOk336:FnOk Tryz.prog 336 (fe Tryz.f336):=fnOk Tryz.func336 (by kernel_rfl) Tryz.call336
theorem fnOk239:FnOk Tryz.prog 239 (fe Tryz.f239):=fnOk Tryz.func239 (by kernel_rfl) Tryz.call239
theorem fnOk241:FnOk Tryz.prog 241 (fe Tryz.f241):=fnOk Tryz.func241 (by kernel_rfl) Tryz.call241
theorem fnOk329:FnOk Tryz.prog 329 (fe Tryz.f329):=fnOk Tryz.func329 (by kernel_rfl) Tryz.call329
theorem fnOk218:FnOk Tryz.prog 218 (fe Tryz.f218):=fnOk Tryz.func218 (by kernel_rfl) Tryz.call218
theorem fnOk60:FnOk Tryz.prog 60 (fe Tryz.f60):=fnOk Tryz.func60 (by kernel_rfl) Tryz.call60
theorem fnOk143:FnOk Tryz.prog 143 (fe Tryz.f143):=fnOk Tryz.func143 (by kernel_rfl) Tryz.call143
theorem fnOk131:FnOk Tryz.prog 131 (fe Tryz.f131):=fnOk Tryz.func131 (by kernel_rfl) Tryz.call131
theorem fnOk219:FnOk Tryz.prog 219 (fe Tryz.f219):=fnOk Tryz.func219 (by kernel_rfl) Tryz.call219
theorem fnOk135:FnOk Tryz.prog 135 (fe Tryz.f135):=fnOk Tryz.func135 (by kernel_rfl) Tryz.call135
theorem fnOk230:FnOk Tryz.prog 230 (fe Tryz.f230):=fnOk Tryz.func230 (by kernel_rfl) Tryz.call230
theorem fnOk140:FnOk Tryz.prog 140 (fe Tryz.f140):=fnOk Tryz.func140 (by kernel_rfl) Tryz.call140
theorem fnOk128:FnOk Tryz.prog 128 (fe Tryz.f128):=fnOk Tryz.func128 (by kernel_rfl) Tryz.call128
theorem fnOk231:FnOk Tryz.prog 231 (fe Tryz.f231):=fnOk Tryz.func231 (by kernel_rfl) Tryz.call231
theorem fnOk129:FnOk Tryz.prog 129 (fe Tryz.f129):=fnOk Tryz.func129 (by kernel_rfl) Tryz.call129
theorem fnOk238:FnOk Tryz.prog 238 (fe Tryz.f238):=fnOk Tryz.func238 (by kernel_rfl) Tryz.call238
theorem fnOk237:FnOk Tryz.prog 237 (fe Tryz.f237):=fnOk Tryz.func237 (by kernel_rfl) Tryz.call237
theorem fnOk157:FnOk Tryz.prog 157 (fe Tryz.f157):=fnOk Tryz.func157 (by kernel_rfl) Tryz.call157
theorem fnOk61:FnOk Tryz.prog 61 (fe Tryz.f61):=fnOk Tryz.func61 (by kernel_rfl) Tryz.call61
theorem fnOk153:FnOk Tryz.prog 153 (fe Tryz.f153):=fnOk Tryz.func153 (by kernel_rfl) Tryz.call153
theorem fnOk147:FnOk Tryz.prog 147 (fe Tryz.f147):=fnOk Tryz.func147 (by kernel_rfl) Tryz.call147
theorem fnOk144:FnOk Tryz.prog 144 (fe Tryz.f144):=fnOk Tryz.func144 (by kernel_rfl) Tryz.call144
theorem fnOk145:FnOk Tryz.prog 145 (fe Tryz.f145):=fnOk Tryz.func145 (by kernel_rfl) Tryz.call145
theorem fnOk74:FnOk Tryz.prog 74 (fe Tryz.f74):=fnOk Tryz.func74 (by kernel_rfl) Tryz.call74
theorem fnOk75:FnOk Tryz.prog 75 (fe Tryz.f75):=fnOk Tryz.func75 (by kernel_rfl) Tryz.call75
theorem fnOk23:FnOk Tryz.prog 23 (fe Tryz.f23):=fnOk Tryz.func23 (by kernel_rfl) Tryz.call23
theorem fnOk37:FnOk Tryz.prog 37 (fe Tryz.f37):=fnOk Tryz.func37 (by kernel_rfl) Tryz.call37
theorem fnOk63:FnOk Tryz.prog 63 (fe Tryz.f63):=fnOk Tryz.func63 (by kernel_rfl) Tryz.call63
theorem fnOk76:FnOk Tryz.prog 76 (fe Tryz.f76):=fnOk Tryz.func76 (by kernel_rfl) Tryz.call76
theorem fnOk69:FnOk Tryz.prog 69 (fe Tryz.f69):=fnOk Tryz.func69 (by kernel_rfl) Tryz.call69
theorem fnOk66:FnOk Tryz.prog 66 (fe Tryz.f66):=fnOk Tryz.func66 (by kernel_rfl) Tryz.call66
theorem fnOk64:FnOk Tryz.prog 64 (fe Tryz.f64):=fnOk Tryz.func64 (by kernel_rfl) Tryz.call64
theorem fnOk93:FnOk Tryz.prog 93 (fe Tryz.f93):=fnOk Tryz.func93 (by kernel_rfl) Tryz.call93
theorem fnOk91:FnOk Tryz.prog 91 (fe Tryz.f91):=fnOk Tryz.func91 (by kernel_rfl) Tryz.call91
theorem fnOk184:FnOk Tryz.prog 184 (fe Tryz.f184):=fnOk Tryz.func184 (by kernel_rfl) Tryz.call184
theorem fnOk38:FnOk Tryz.prog 38 (fe Tryz.f38):=fnOk Tryz.func38 (by kernel_rfl) Tryz.call38
theorem fnOk80:FnOk Tryz.prog 80 (fe Tryz.f80):=fnOk Tryz.func80 (by kernel_rfl) Tryz.call80
theorem fnOk92:FnOk Tryz.prog 92 (fe Tryz.f92):=fnOk Tryz.func92 (by kernel_rfl) Tryz.call92
theorem fnOk81:FnOk Tryz.prog 81 (fe Tryz.f81):=fnOk Tryz.func81 (by kernel_rfl) Tryz.call81
theorem fnOk79:FnOk Tryz.prog 79 (fe Tryz.f79):=fnOk Tryz.func79 (by kernel_rfl) Tryz.call79
theorem fnOk78:FnOk Tryz.prog 78 (fe Tryz.f78):=fnOk Tryz.func78 (by kernel_rfl) Tryz.call78
theorem fnOk325:FnOk Tryz.prog 325 (fe Tryz.f325):=fnOk Tryz.func325 (by kernel_rfl) Tryz.call325
theorem fnOk233:FnOk Tryz.prog 233 (fe Tryz.f233):=fnOk Tryz.func233 (by kernel_rfl) Tryz.call233
theorem fnOk232:FnOk Tryz.prog 232 (fe Tryz.f232):=fnOk Tryz.func232 (by kernel_rfl) Tryz.call232
theorem fnOk142:FnOk Tryz.prog 142 (fe Tryz.f142):=fnOk Tryz.func142 (by kernel_rfl) Tryz.call142
theorem fnOk141:FnOk Tryz.prog 141 (fe Tryz.f141):=fnOk Tryz.func141 (by kernel_rfl) Tryz.call141
theorem fnOk234:FnOk Tryz.prog 234 (fe Tryz.f234):=fnOk Tryz.func234 (by kernel_rfl) Tryz.call234
theorem fnOk236:FnOk Tryz.prog 236 (fe Tryz.f236):=fnOk Tryz.func236 (by kernel_rfl) Tryz.call236
theorem fnOk326:FnOk Tryz.prog 326 (fe Tryz.f326):=fnOk Tryz.func326 (by kernel_rfl) Tryz.call326
theorem fnOk365:FnOk Tryz.prog 365 (fe Tryz.f365):=fnOk Tryz.func365 (by kernel_rfl) Tryz.call365
theorem fnOk324:FnOk Tryz.prog 324 (fe Tryz.f324):=fnOk Tryz.func324 (by kernel_rfl) Tryz.call324
theorem fnOk235:FnOk Tryz.prog 235 (fe Tryz.f235):=fnOk Tryz.func235 (by kernel_rfl) Tryz.call235
theorem fnOk253:FnOk Tryz.prog 253 (fe Tryz.f253):=fnOk Tryz.func253 (by kernel_rfl) Tryz.call253
theorem fnOk340:FnOk Tryz.prog 340 (fe Tryz.f340):=fnOk Tryz.func340 (by kernel_rfl) Tryz.call340
theorem fnOk156:FnOk Tryz.prog 156 (fe Tryz.f156):=fnOk Tryz.func156 (by kernel_rfl) Tryz.call156
theorem fnOk339:FnOk Tryz.prog 339 (fe Tryz.f339):=fnOk Tryz.func339 (by kernel_rfl) Tryz.call339
theorem fnOk341:FnOk Tryz.prog 341 (fe Tryz.f341):=fnOk Tryz.func341 (by kernel_rfl) Tryz.call341
theorem fnOk252:FnOk Tryz.prog 252 (fe Tryz.f252):=fnOk Tryz.func252 (by kernel_rfl) Tryz.call252
theorem fnOk73:FnOk Tryz.prog 73 (fe Tryz.f73):=fnOk Tryz.func73 (by kernel_rfl) Tryz.call73
theorem fnOk21:FnOk Tryz.prog 21 (fe Tryz.f21):=fnOk Tryz.func21 (by kernel_rfl) Tryz.call21
theorem fnOk77:FnOk Tryz.prog 77 (fe Tryz.f77):=fnOk Tryz.func77 (by kernel_rfl) Tryz.call77
theorem fnOk183:FnOk Tryz.prog 183 (fe Tryz.f183):=fnOk Tryz.func183 (by kernel_rfl) Tryz.call183
theorem fnOk6:FnOk Tryz.prog 6 (fe Tryz.f6):=fnOk Tryz.func6 (by kernel_rfl) Tryz.call6
theorem fnOk182:FnOk Tryz.prog 182 (fe Tryz.f182):=fnOk Tryz.func182 (by kernel_rfl) Tryz.call182
theorem fnOk196:FnOk Tryz.prog 196 (fe Tryz.f196):=fnOk Tryz.func196 (by kernel_rfl) Tryz.call196
theorem fnOk14:FnOk Tryz.prog 14 (fe Tryz.f14):=fnOk Tryz.func14 (by kernel_rfl) Tryz.call14
theorem fnOk94:FnOk Tryz.prog 94 (fe Tryz.f94):=fnOk Tryz.func94 (by kernel_rfl) Tryz.call94
theorem fnOk350:FnOk Tryz.prog 350 (fe Tryz.f350):=fnOk Tryz.func350 (by kernel_rfl) Tryz.call350
theorem fnOk280:FnOk Tryz.prog 280 (fe Tryz.f280):=fnOk Tryz.func280 (by kernel_rfl) Tryz.call280
theorem fnOk195:FnOk Tryz.prog 195 (fe Tryz.f195):=fnOk Tryz.func195 (by kernel_rfl) Tryz.call195
theorem fnOk281:FnOk Tryz.prog 281 (fe Tryz.f281):=fnOk Tryz.func281 (by kernel_rfl) Tryz.call281
theorem fnOk16:FnOk Tryz.prog 16 (fe Tryz.f16):=fnOk Tryz.func16 (by kernel_rfl) Tryz.call16
theorem fnOk194:FnOk Tryz.prog 194 (fe Tryz.f194):=fnOk Tryz.func194 (by kernel_rfl) Tryz.call194
theorem fnOk5:FnOk Tryz.prog 5 (fe Tryz.f5):=fnOk Tryz.func5 (by kernel_rfl) Tryz.call5
theorem fnOk36:FnOk Tryz.prog 36 (fe Tryz.f36):=fnOk Tryz.func36 (by kernel_rfl) Tryz.call36
theorem fnOk13:FnOk Tryz.prog 13 (fe Tryz.f13):=fnOk Tryz.func13 (by kernel_rfl) Tryz.call13
theorem fnOk15:FnOk Tryz.prog 15 (fe Tryz.f15):=fnOk Tryz.func15 (by kernel_rfl) Tryz.call15
theorem fnOk10:FnOk Tryz.prog 10 (fe Tryz.f10):=fnOk Tryz.func10 (by kernel_rfl) Tryz.call10
theorem fnOk67:FnOk Tryz.prog 67 (fe Tryz.f67):=fnOk Tryz.func67 (by kernel_rfl) Tryz.call67
theorem fnOk68:FnOk Tryz.prog 68 (fe Tryz.f68):=fnOk Tryz.func68 (by kernel_rfl) Tryz.call68
theorem fnOk173:FnOk Tryz.prog 173 (fe Tryz.f173):=fnOk Tryz.func173 (by kernel_rfl) Tryz.call173
theorem fnOk65:FnOk Tryz.prog 65 (fe Tryz.f65):=fnOk Tryz.func65 (by kernel_rfl) Tryz.call65
theorem fnOk12:FnOk Tryz.prog 12 (fe Tryz.f12):=fnOk Tryz.func12 (by kernel_rfl) Tryz.call12
theorem fnOk34:FnOk Tryz.prog 34 (fe Tryz.f34):=fnOk Tryz.func34 (by kernel_rfl) Tryz.call34
theorem fnOk178:FnOk Tryz.prog 178 (fe Tryz.f178):=fnOk Tryz.func178 (by kernel_rfl) Tryz.call178
theorem fnOk7:FnOk Tryz.prog 7 (fe Tryz.f7):=fnOk Tryz.func7 (by kernel_rfl) Tryz.call7
theorem fnOk70:FnOk Tryz.prog 70 (fe Tryz.f70):=fnOk Tryz.func70 (by kernel_rfl) Tryz.call70
theorem fnOk177:FnOk Tryz.prog 177 (fe Tryz.f177):=fnOk Tryz.func177 (by kernel_rfl) Tryz.call177
theorem fnOk22:FnOk Tryz.prog 22 (fe Tryz.f22):=fnOk Tryz.func22 (by kernel_rfl) Tryz.call22
theorem fnOk24:FnOk Tryz.prog 24 (fe Tryz.f24):=fnOk Tryz.func24 (by kernel_rfl) Tryz.call24
theorem fnOk72:FnOk Tryz.prog 72 (fe Tryz.f72):=fnOk Tryz.func72 (by kernel_rfl) Tryz.call72
theorem fnOk71:FnOk Tryz.prog 71 (fe Tryz.f71):=fnOk Tryz.func71 (by kernel_rfl) Tryz.call71
theorem fnOk176:FnOk Tryz.prog 176 (fe Tryz.f176):=fnOk Tryz.func176 (by kernel_rfl) Tryz.call176
theorem fnOk104:FnOk Tryz.prog 104 (fe Tryz.f104):=fnOk Tryz.func104 (by kernel_rfl) Tryz.call104
theorem fnOk105:FnOk Tryz.prog 105 (fe Tryz.f105):=fnOk Tryz.func105 (by kernel_rfl) Tryz.call105
theorem fnOk35:FnOk Tryz.prog 35 (fe Tryz.f35):=fnOk Tryz.func35 (by kernel_rfl) Tryz.call35
theorem fnOk52:FnOk Tryz.prog 52 (fe Tryz.f52):=fnOk Tryz.func52 (by kernel_rfl) Tryz.call52
theorem fnOk28:FnOk Tryz.prog 28 (fe Tryz.f28):=fnOk Tryz.func28 (by kernel_rfl) Tryz.call28
theorem fnOk48:FnOk Tryz.prog 48 (fe Tryz.f48):=fnOk Tryz.func48 (by kernel_rfl) Tryz.call48
theorem fnOk180:FnOk Tryz.prog 180 (fe Tryz.f180):=fnOk Tryz.func180 (by kernel_rfl) Tryz.call180
theorem fnOk46:FnOk Tryz.prog 46 (fe Tryz.f46):=fnOk Tryz.func46 (by kernel_rfl) Tryz.call46
theorem fnOk112:FnOk Tryz.prog 112 (fe Tryz.f112):=fnOk Tryz.func112 (by kernel_rfl) Tryz.call112
theorem fnOk132:FnOk Tryz.prog 132 (fe Tryz.f132):=fnOk Tryz.func132 (by kernel_rfl) Tryz.call132
theorem fnOk221:FnOk Tryz.prog 221 (fe Tryz.f221):=fnOk Tryz.func221 (by kernel_rfl) Tryz.call221
theorem fnOk308:FnOk Tryz.prog 308 (fe Tryz.f308):=fnOk Tryz.func308 (by kernel_rfl) Tryz.call308
theorem fnOk134:FnOk Tryz.prog 134 (fe Tryz.f134):=fnOk Tryz.func134 (by kernel_rfl) Tryz.call134
theorem fnOk229:FnOk Tryz.prog 229 (fe Tryz.f229):=fnOk Tryz.func229 (by kernel_rfl) Tryz.call229
theorem fnOk130:FnOk Tryz.prog 130 (fe Tryz.f130):=fnOk Tryz.func130 (by kernel_rfl) Tryz.call130
theorem fnOk137:FnOk Tryz.prog 137 (fe Tryz.f137):=fnOk Tryz.func137 (by kernel_rfl) Tryz.call137
theorem fnOk133:FnOk Tryz.prog 133 (fe Tryz.f133):=fnOk Tryz.func133 (by kernel_rfl) Tryz.call133
theorem fnOk136:FnOk Tryz.prog 136 (fe Tryz.f136):=fnOk Tryz.func136 (by kernel_rfl) Tryz.call136
theorem fnOk139:FnOk Tryz.prog 139 (fe Tryz.f139):=fnOk Tryz.func139 (by kernel_rfl) Tryz.call139
theorem fnOk138:FnOk Tryz.prog 138 (fe Tryz.f138):=fnOk Tryz.func138 (by kernel_rfl) Tryz.call138
theorem fnOk315:FnOk Tryz.prog 315 (fe Tryz.f315):=fnOk Tryz.func315 (by kernel_rfl) Tryz.call315
theorem fnOk321:FnOk Tryz.prog 321 (fe Tryz.f321):=fnOk Tryz.func321 (by kernel_rfl) Tryz.call321
theorem fnOk310:FnOk Tryz.prog 310 (fe Tryz.f310):=fnOk Tryz.func310 (by kernel_rfl) Tryz.call310
theorem fnOk309:FnOk Tryz.prog 309 (fe Tryz.f309):=fnOk Tryz.func309 (by kernel_rfl) Tryz.call309
theorem fnOk317:FnOk Tryz.prog 317 (fe Tryz.f317):=fnOk Tryz.func317 (by kernel_rfl) Tryz.call317
theorem fnOk220:FnOk Tryz.prog 220 (fe Tryz.f220):=fnOk Tryz.func220 (by kernel_rfl) Tryz.call220
theorem fnOk323:FnOk Tryz.prog 323 (fe Tryz.f323):=fnOk Tryz.func323 (by kernel_rfl) Tryz.call323
theorem fnOk364:FnOk Tryz.prog 364 (fe Tryz.f364):=fnOk Tryz.func364 (by kernel_rfl) Tryz.call364
theorem fnOk225:FnOk Tryz.prog 225 (fe Tryz.f225):=fnOk Tryz.func225 (by kernel_rfl) Tryz.call225
theorem fnOk313:FnOk Tryz.prog 313 (fe Tryz.f313):=fnOk Tryz.func313 (by kernel_rfl) Tryz.call313
theorem fnOk90:FnOk Tryz.prog 90 (fe Tryz.f90):=fnOk Tryz.func90 (by kernel_rfl) Tryz.call90
theorem fnOk19:FnOk Tryz.prog 19 (fe Tryz.f19):=fnOk Tryz.func19 (by kernel_rfl) Tryz.call19
theorem fnOk197:FnOk Tryz.prog 197 (fe Tryz.f197):=fnOk Tryz.func197 (by kernel_rfl) Tryz.call197
theorem fnOk282:FnOk Tryz.prog 282 (fe Tryz.f282):=fnOk Tryz.func282 (by kernel_rfl) Tryz.call282
theorem fnOk283:FnOk Tryz.prog 283 (fe Tryz.f283):=fnOk Tryz.func283 (by kernel_rfl) Tryz.call283
theorem fnOk285:FnOk Tryz.prog 285 (fe Tryz.f285):=fnOk Tryz.func285 (by kernel_rfl) Tryz.call285
theorem fnOk83:FnOk Tryz.prog 83 (fe Tryz.f83):=fnOk Tryz.func83 (by kernel_rfl) Tryz.call83
theorem fnOk89:FnOk Tryz.prog 89 (fe Tryz.f89):=fnOk Tryz.func89 (by kernel_rfl) Tryz.call89
theorem fnOk84:FnOk Tryz.prog 84 (fe Tryz.f84):=fnOk Tryz.func84 (by kernel_rfl) Tryz.call84
theorem fnOk85:FnOk Tryz.prog 85 (fe Tryz.f85):=fnOk Tryz.func85 (by kernel_rfl) Tryz.call85
theorem fnOk86:FnOk Tryz.prog 86 (fe Tryz.f86):=fnOk Tryz.func86 (by kernel_rfl) Tryz.call86
theorem fnOk18:FnOk Tryz.prog 18 (fe Tryz.f18):=fnOk Tryz.func18 (by kernel_rfl) Tryz.call18
theorem fnOk87:FnOk Tryz.prog 87 (fe Tryz.f87):=fnOk Tryz.func87 (by kernel_rfl) Tryz.call87
theorem fnOk88:FnOk Tryz.prog 88 (fe Tryz.f88):=fnOk Tryz.func88 (by kernel_rfl) Tryz.call88
theorem fnOk192:FnOk Tryz.prog 192 (fe Tryz.f192):=fnOk Tryz.func192 (by kernel_rfl) Tryz.call192
theorem fnOk82:FnOk Tryz.prog 82 (fe Tryz.f82):=fnOk Tryz.func82 (by kernel_rfl) Tryz.call82
theorem fnOk186:FnOk Tryz.prog 186 (fe Tryz.f186):=fnOk Tryz.func186 (by kernel_rfl) Tryz.call186
theorem fnOk271:FnOk Tryz.prog 271 (fe Tryz.f271):=fnOk Tryz.func271 (by kernel_rfl) Tryz.call271
theorem fnOk39:FnOk Tryz.prog 39 (fe Tryz.f39):=fnOk Tryz.func39 (by kernel_rfl) Tryz.call39
theorem fnOk40:FnOk Tryz.prog 40 (fe Tryz.f40):=fnOk Tryz.func40 (by kernel_rfl) Tryz.call40
theorem fnOk95:FnOk Tryz.prog 95 (fe Tryz.f95):=fnOk Tryz.func95 (by kernel_rfl) Tryz.call95
theorem fnOk185:FnOk Tryz.prog 185 (fe Tryz.f185):=fnOk Tryz.func185 (by kernel_rfl) Tryz.call185
theorem fnOk198:FnOk Tryz.prog 198 (fe Tryz.f198):=fnOk Tryz.func198 (by kernel_rfl) Tryz.call198
theorem fnOk286:FnOk Tryz.prog 286 (fe Tryz.f286):=fnOk Tryz.func286 (by kernel_rfl) Tryz.call286
theorem fnOk306:FnOk Tryz.prog 306 (fe Tryz.f306):=fnOk Tryz.func306 (by kernel_rfl) Tryz.call306
theorem fnOk307:FnOk Tryz.prog 307 (fe Tryz.f307):=fnOk Tryz.func307 (by kernel_rfl) Tryz.call307
theorem fnOk362:FnOk Tryz.prog 362 (fe Tryz.f362):=fnOk Tryz.func362 (by kernel_rfl) Tryz.call362
theorem fnOk217:FnOk Tryz.prog 217 (fe Tryz.f217):=fnOk Tryz.func217 (by kernel_rfl) Tryz.call217
theorem fnOk304:FnOk Tryz.prog 304 (fe Tryz.f304):=fnOk Tryz.func304 (by kernel_rfl) Tryz.call304
theorem fnOk203:FnOk Tryz.prog 203 (fe Tryz.f203):=fnOk Tryz.func203 (by kernel_rfl) Tryz.call203
theorem fnOk296:FnOk Tryz.prog 296 (fe Tryz.f296):=fnOk Tryz.func296 (by kernel_rfl) Tryz.call296
theorem fnOk297:FnOk Tryz.prog 297 (fe Tryz.f297):=fnOk Tryz.func297 (by kernel_rfl) Tryz.call297
theorem fnOk266:FnOk Tryz.prog 266 (fe Tryz.f266):=fnOk Tryz.func266 (by kernel_rfl) Tryz.call266
theorem fnOk268:FnOk Tryz.prog 268 (fe Tryz.f268):=fnOk Tryz.func268 (by kernel_rfl) Tryz.call268
theorem fnOk347:FnOk Tryz.prog 347 (fe Tryz.f347):=fnOk Tryz.func347 (by kernel_rfl) Tryz.call347
theorem fnOk276:FnOk Tryz.prog 276 (fe Tryz.f276):=fnOk Tryz.func276 (by kernel_rfl) Tryz.call276
theorem fnOk179:FnOk Tryz.prog 179 (fe Tryz.f179):=fnOk Tryz.func179 (by kernel_rfl) Tryz.call179
theorem fnOk174:FnOk Tryz.prog 174 (fe Tryz.f174):=fnOk Tryz.func174 (by kernel_rfl) Tryz.call174
theorem fnOk274:FnOk Tryz.prog 274 (fe Tryz.f274):=fnOk Tryz.func274 (by kernel_rfl) Tryz.call274
theorem fnOk272:FnOk Tryz.prog 272 (fe Tryz.f272):=fnOk Tryz.func272 (by kernel_rfl) Tryz.call272
theorem fnOk251:FnOk Tryz.prog 251 (fe Tryz.f251):=fnOk Tryz.func251 (by kernel_rfl) Tryz.call251
theorem fnOk99:FnOk Tryz.prog 99 (fe Tryz.f99):=fnOk Tryz.func99 (by kernel_rfl) Tryz.call99
theorem fnOk284:FnOk Tryz.prog 284 (fe Tryz.f284):=fnOk Tryz.func284 (by kernel_rfl) Tryz.call284
theorem fnOk367:FnOk Tryz.prog 367 (fe Tryz.f367):=fnOk Tryz.func367 (by kernel_rfl) Tryz.call367
theorem fnOk242:FnOk Tryz.prog 242 (fe Tryz.f242):=fnOk Tryz.func242 (by kernel_rfl) Tryz.call242
theorem fnOk33:FnOk Tryz.prog 33 (fe Tryz.f33):=fnOk Tryz.func33 (by kernel_rfl) Tryz.call33
theorem fnOk108:FnOk Tryz.prog 108 (fe Tryz.f108):=fnOk Tryz.func108 (by kernel_rfl) Tryz.call108
theorem fnOk53:FnOk Tryz.prog 53 (fe Tryz.f53):=fnOk Tryz.func53 (by kernel_rfl) Tryz.call53
theorem fnOk206:FnOk Tryz.prog 206 (fe Tryz.f206):=fnOk Tryz.func206 (by kernel_rfl) Tryz.call206
theorem fnOk47:FnOk Tryz.prog 47 (fe Tryz.f47):=fnOk Tryz.func47 (by kernel_rfl) Tryz.call47
theorem fnOk101:FnOk Tryz.prog 101 (fe Tryz.f101):=fnOk Tryz.func101 (by kernel_rfl) Tryz.call101
theorem fnOk98:FnOk Tryz.prog 98 (fe Tryz.f98):=fnOk Tryz.func98 (by kernel_rfl) Tryz.call98
theorem fnOk191:FnOk Tryz.prog 191 (fe Tryz.f191):=fnOk Tryz.func191 (by kernel_rfl) Tryz.call191
theorem fnOk181:FnOk Tryz.prog 181 (fe Tryz.f181):=fnOk Tryz.func181 (by kernel_rfl) Tryz.call181
theorem fnOk348:FnOk Tryz.prog 348 (fe Tryz.f348):=fnOk Tryz.func348 (by kernel_rfl) Tryz.call348
theorem fnOk338:FnOk Tryz.prog 338 (fe Tryz.f338):=fnOk Tryz.func338 (by kernel_rfl) Tryz.call338
theorem fnOk200:FnOk Tryz.prog 200 (fe Tryz.f200):=fnOk Tryz.func200 (by kernel_rfl) Tryz.call200
theorem fnOk351:FnOk Tryz.prog 351 (fe Tryz.f351):=fnOk Tryz.func351 (by kernel_rfl) Tryz.call351
theorem fnOk379:FnOk Tryz.prog 379 (fe Tryz.f379):=fnOk Tryz.func379 (by kernel_rfl) Tryz.call379
theorem fnOk330:FnOk Tryz.prog 330 (fe Tryz.f330):=fnOk Tryz.func330 (by kernel_rfl) Tryz.call330
theorem fnOk59:FnOk Tryz.prog 59 (fe Tryz.f59):=fnOk Tryz.func59 (by kernel_rfl) Tryz.call59
theorem fnOk208:FnOk Tryz.prog 208 (fe Tryz.f208):=fnOk Tryz.func208 (by kernel_rfl) Tryz.call208
theorem fnOk127:FnOk Tryz.prog 127 (fe Tryz.f127):=fnOk Tryz.func127 (by kernel_rfl) Tryz.call127
theorem fnOk278:FnOk Tryz.prog 278 (fe Tryz.f278):=fnOk Tryz.func278 (by kernel_rfl) Tryz.call278
theorem fnOk113:FnOk Tryz.prog 113 (fe Tryz.f113):=fnOk Tryz.func113 (by kernel_rfl) Tryz.call113
theorem fnOk201:FnOk Tryz.prog 201 (fe Tryz.f201):=fnOk Tryz.func201 (by kernel_rfl) Tryz.call201
theorem fnOk199:FnOk Tryz.prog 199 (fe Tryz.f199):=fnOk Tryz.func199 (by kernel_rfl) Tryz.call199
theorem fnOk205:FnOk Tryz.prog 205 (fe Tryz.f205):=fnOk Tryz.func205 (by kernel_rfl) Tryz.call205
theorem fnOk204:FnOk Tryz.prog 204 (fe Tryz.f204):=fnOk Tryz.func204 (by kernel_rfl) Tryz.call204
theorem fnOk277:FnOk Tryz.prog 277 (fe Tryz.f277):=fnOk Tryz.func277 (by kernel_rfl) Tryz.call277
theorem fnOk102:FnOk Tryz.prog 102 (fe Tryz.f102):=fnOk Tryz.func102 (by kernel_rfl) Tryz.call102
theorem fnOk273:FnOk Tryz.prog 273 (fe Tryz.f273):=fnOk Tryz.func273 (by kernel_rfl) Tryz.call273
theorem fnOk371:FnOk Tryz.prog 371 (fe Tryz.f371):=fnOk Tryz.func371 (by kernel_rfl) Tryz.call371
theorem fnOk289:FnOk Tryz.prog 289 (fe Tryz.f289):=fnOk Tryz.func289 (by kernel_rfl) Tryz.call289
theorem fnOk372:FnOk Tryz.prog 372 (fe Tryz.f372):=fnOk Tryz.func372 (by kernel_rfl) Tryz.call372
theorem fnOk290:FnOk Tryz.prog 290 (fe Tryz.f290):=fnOk Tryz.func290 (by kernel_rfl) Tryz.call290
theorem fnOk370:FnOk Tryz.prog 370 (fe Tryz.f370):=fnOk Tryz.func370 (by kernel_rfl) Tryz.call370
theorem fnOk288:FnOk Tryz.prog 288 (fe Tryz.f288):=fnOk Tryz.func288 (by kernel_rfl) Tryz.call288
theorem fnOk369:FnOk Tryz.prog 369 (fe Tryz.f369):=fnOk Tryz.func369 (by kernel_rfl) Tryz.call369
theorem fnOk287:FnOk Tryz.prog 287 (fe Tryz.f287):=fnOk Tryz.func287 (by kernel_rfl) Tryz.call287
theorem fnOk381:FnOk Tryz.prog 381 (fe Tryz.f381):=fnOk Tryz.func381 (by kernel_rfl) Tryz.call381
theorem fnOk355:FnOk Tryz.prog 355 (fe Tryz.f355):=fnOk Tryz.func355 (by kernel_rfl) Tryz.call355
theorem fnOk382:FnOk Tryz.prog 382 (fe Tryz.f382):=fnOk Tryz.func382 (by kernel_rfl) Tryz.call382
theorem fnOk356:FnOk Tryz.prog 356 (fe Tryz.f356):=fnOk Tryz.func356 (by kernel_rfl) Tryz.call356
theorem fnOk353:FnOk Tryz.prog 353 (fe Tryz.f353):=fnOk Tryz.func353 (by kernel_rfl) Tryz.call353
theorem fnOk384:FnOk Tryz.prog 384 (fe Tryz.f384):=fnOk Tryz.func384 (by kernel_rfl) Tryz.call384
theorem fnOk378:FnOk Tryz.prog 378 (fe Tryz.f378):=fnOk Tryz.func378 (by kernel_rfl) Tryz.call378
theorem fnOk374:FnOk Tryz.prog 374 (fe Tryz.f374):=fnOk Tryz.func374 (by kernel_rfl) Tryz.call374
theorem fnOk292:FnOk Tryz.prog 292 (fe Tryz.f292):=fnOk Tryz.func292 (by kernel_rfl) Tryz.call292
theorem fnOk376:FnOk Tryz.prog 376 (fe Tryz.f376):=fnOk Tryz.func376 (by kernel_rfl) Tryz.call376
theorem fnOk294:FnOk Tryz.prog 294 (fe Tryz.f294):=fnOk Tryz.func294 (by kernel_rfl) Tryz.call294
theorem fnOk377:FnOk Tryz.prog 377 (fe Tryz.f377):=fnOk Tryz.func377 (by kernel_rfl) Tryz.call377
theorem fnOk295:FnOk Tryz.prog 295 (fe Tryz.f295):=fnOk Tryz.func295 (by kernel_rfl) Tryz.call295
theorem fnOk349:FnOk Tryz.prog 349 (fe Tryz.f349):=fnOk Tryz.func349 (by kernel_rfl) Tryz.call349
theorem fnOk202:FnOk Tryz.prog 202 (fe Tryz.f202):=fnOk Tryz.func202 (by kernel_rfl) Tryz.call202
theorem fnOk373:FnOk Tryz.prog 373 (fe Tryz.f373):=fnOk Tryz.func373 (by kernel_rfl) Tryz.call373
theorem fnOk291:FnOk Tryz.prog 291 (fe Tryz.f291):=fnOk Tryz.func291 (by kernel_rfl) Tryz.call291
theorem fnOk380:FnOk Tryz.prog 380 (fe Tryz.f380):=fnOk Tryz.func380 (by kernel_rfl) Tryz.call380
theorem fnOk352:FnOk Tryz.prog 352 (fe Tryz.f352):=fnOk Tryz.func352 (by kernel_rfl) Tryz.call352
theorem fnOk215:FnOk Tryz.prog 215 (fe Tryz.f215):=fnOk Tryz.func215 (by kernel_rfl) Tryz.call215
theorem fnOk51:FnOk Tryz.prog 51 (fe Tryz.f51):=fnOk Tryz.func51 (by kernel_rfl) Tryz.call51
theorem fnOk126:FnOk Tryz.prog 126 (fe Tryz.f126):=fnOk Tryz.func126 (by kernel_rfl) Tryz.call126
theorem fnOk359:FnOk Tryz.prog 359 (fe Tryz.f359):=fnOk Tryz.func359 (by kernel_rfl) Tryz.call359
theorem fnOk302:FnOk Tryz.prog 302 (fe Tryz.f302):=fnOk Tryz.func302 (by kernel_rfl) Tryz.call302
theorem fnOk49:FnOk Tryz.prog 49 (fe Tryz.f49):=fnOk Tryz.func49 (by kernel_rfl) Tryz.call49
theorem fnOk50:FnOk Tryz.prog 50 (fe Tryz.f50):=fnOk Tryz.func50 (by kernel_rfl) Tryz.call50
theorem fnOk119:FnOk Tryz.prog 119 (fe Tryz.f119):=fnOk Tryz.func119 (by kernel_rfl) Tryz.call119
theorem fnOk120:FnOk Tryz.prog 120 (fe Tryz.f120):=fnOk Tryz.func120 (by kernel_rfl) Tryz.call120
theorem fnOk117:FnOk Tryz.prog 117 (fe Tryz.f117):=fnOk Tryz.func117 (by kernel_rfl) Tryz.call117
theorem fnOk122:FnOk Tryz.prog 122 (fe Tryz.f122):=fnOk Tryz.func122 (by kernel_rfl) Tryz.call122
theorem fnOk121:FnOk Tryz.prog 121 (fe Tryz.f121):=fnOk Tryz.func121 (by kernel_rfl) Tryz.call121
theorem fnOk118:FnOk Tryz.prog 118 (fe Tryz.f118):=fnOk Tryz.func118 (by kernel_rfl) Tryz.call118
theorem fnOk123:FnOk Tryz.prog 123 (fe Tryz.f123):=fnOk Tryz.func123 (by kernel_rfl) Tryz.call123
theorem fnOk216:FnOk Tryz.prog 216 (fe Tryz.f216):=fnOk Tryz.func216 (by kernel_rfl) Tryz.call216
theorem fnOk214:FnOk Tryz.prog 214 (fe Tryz.f214):=fnOk Tryz.func214 (by kernel_rfl) Tryz.call214
theorem fnOk124:FnOk Tryz.prog 124 (fe Tryz.f124):=fnOk Tryz.func124 (by kernel_rfl) Tryz.call124
theorem fnOk303:FnOk Tryz.prog 303 (fe Tryz.f303):=fnOk Tryz.func303 (by kernel_rfl) Tryz.call303
theorem fnOk360:FnOk Tryz.prog 360 (fe Tryz.f360):=fnOk Tryz.func360 (by kernel_rfl) Tryz.call360
theorem fnOk301:FnOk Tryz.prog 301 (fe Tryz.f301):=fnOk Tryz.func301 (by kernel_rfl) Tryz.call301
set_option maxRecDepth 100000 in
set_option maxRecDepth 100000 in
theorem fns_ok:∀p∈fnsL,FnOk Tryz.prog p.1 p.2:=
 fnC fnOk243<|
 fnC fnOk332<|
 fnC fnOk247<|
 fnC fnOk333<|
 fnC fnOk331<|
 fnC fnOk246<|
 fnC fnOk244<|
 fnC fnOk245<|
 fnC fnOk334<|
 fnC fnOk249<|
 fnC fnOk335<|
 fnC fnOk58<|
 fnC fnOk29<|
 fnC fnOk54<|
 fnC fnOk106<|
 fnC fnOk32<|
 fnC fnOk42<|
 fnC fnOk41<|
 fnC fnOk100<|
 fnC fnOk175<|
 fnC fnOk267<|
 fnC fnOk55<|
 fnC fnOk103<|
 fnC fnOk223<|
 fnC fnOk222<|
 fnC fnOk311<|
 fnC fnOk312<|
 fnC fnOk228<|
 fnC fnOk319<|
 fnC fnOk322<|
 fnC fnOk224<|
 fnC fnOk227<|
 fnC fnOk316<|
 fnC fnOk318<|
 fnC fnOk314<|
 fnC fnOk363<|
 fnC fnOk226<|
 fnC fnOk320<|
 fnC fnOk190<|
 fnC fnOk275<|
 fnC fnOk187<|
 fnC fnOk193<|
 fnC fnOk279<|
 fnC fnOk96<|
 fnC fnOk188<|
 fnC fnOk270<|
 fnC fnOk97<|
 fnC fnOk189<|
 fnC fnOk354<|
 fnC fnOk114<|
 fnC fnOk116<|
 fnC fnOk269<|
 fnC fnOk115<|
 fnC fnOk211<|
 fnC fnOk212<|
 fnC fnOk213<|
 fnC fnOk375<|
 fnC fnOk293<|
 fnC fnOk383<|
 fnC fnOk357<|
 fnC fnOk146<|
 fnC fnOk240<|
 fnC fnOk328<|
 fnC fnOk366<|
 fnC fnOk152<|
 fnC fnOk248<|
 fnC fnOk327<|
 fnC fnOk155<|
 fnC fnOk150<|
 fnC fnOk149<|
 fnC fnOk151<|
 fnC fnOk154<|
 fnC fnOk148<|
 fnC fnOk337<|
 fnC fnOk250<|
 fnC fnOk336<|
 fnC fnOk239<|
 fnC fnOk241<|
 fnC fnOk329<|
 fnC fnOk218<|
 fnC fnOk60<|
 fnC fnOk143<|
 fnC fnOk131<|
 fnC fnOk219<|
 fnC fnOk135<|
 fnC fnOk230<|
 fnC fnOk140<|
 fnC fnOk128<|
 fnC fnOk231<|
 fnC fnOk129<|
 fnC fnOk238<|
 fnC fnOk237<|
 fnC fnOk157<|
 fnC fnOk61<|
 fnC fnOk153<|
 fnC fnOk147<|
 fnC fnOk144<|
 fnC fnOk145<|
 fnC fnOk74<|
 fnC fnOk75<|
 fnC fnOk23<|
 fnC fnOk37<|
 fnC fnOk63<|
 fnC fnOk76<|
 fnC fnOk69<|
 fnC fnOk66<|
 fnC fnOk64<|
 fnC fnOk93<|
 fnC fnOk91<|
 fnC fnOk184<|
 fnC fnOk38<|
 fnC fnOk80<|
 fnC fnOk92<|
 fnC fnOk81<|
 fnC fnOk79<|
 fnC fnOk78<|
 fnC fnOk325<|
 fnC fnOk233<|
 fnC fnOk232<|
 fnC fnOk142<|
 fnC fnOk141<|
 fnC fnOk234<|
 fnC fnOk236<|
 fnC fnOk326<|
 fnC fnOk365<|
 fnC fnOk324<|
 fnC fnOk235<|
 fnC fnOk253<|
 fnC fnOk340<|
 fnC fnOk156<|
 fnC fnOk339<|
 fnC fnOk341<|
 fnC fnOk252<|
 fnC fnOk73<|
 fnC fnOk21<|
 fnC fnOk77<|
 fnC fnOk183<|
 fnC fnOk6<|
 fnC fnOk182<|
 fnC fnOk196<|
 fnC fnOk14<|
 fnC fnOk94<|
 fnC fnOk350<|
 fnC fnOk280<|
 fnC fnOk195<|
 fnC fnOk281<|
 fnC fnOk16<|
 fnC fnOk194<|
 fnC fnOk5<|
 fnC fnOk36<|
 fnC fnOk13<|
 fnC fnOk15<|
 fnC fnOk10<|
 fnC fnOk67<|
 fnC fnOk68<|
 fnC fnOk173<|
 fnC fnOk65<|
 fnC fnOk12<|
 fnC fnOk34<|
 fnC fnOk178<|
 fnC fnOk7<|
 fnC fnOk70<|
 fnC fnOk177<|
 fnC fnOk22<|
 fnC fnOk24<|
 fnC fnOk72<|
 fnC fnOk71<|
 fnC fnOk176<|
 fnC fnOk104<|
 fnC fnOk105<|
 fnC fnOk35<|
 fnC fnOk52<|
 fnC fnOk28<|
 fnC fnOk48<|
 fnC fnOk180<|
 fnC fnOk46<|
 fnC fnOk112<|
 fnC fnOk132<|
 fnC fnOk221<|
 fnC fnOk308<|
 fnC fnOk134<|
 fnC fnOk229<|
 fnC fnOk130<|
 fnC fnOk137<|
 fnC fnOk133<|
 fnC fnOk136<|
 fnC fnOk139<|
 fnC fnOk138<|
 fnC fnOk315<|
 fnC fnOk321<|
 fnC fnOk310<|
 fnC fnOk309<|
 fnC fnOk317<|
 fnC fnOk220<|
 fnC fnOk323<|
 fnC fnOk364<|
 fnC fnOk225<|
 fnC fnOk313<|
 fnC fnOk90<|
 fnC fnOk19<|
 fnC fnOk197<|
 fnC fnOk282<|
 fnC fnOk283<|
 fnC fnOk285<|
 fnC fnOk83<|
 fnC fnOk89<|
 fnC fnOk84<|
 fnC fnOk85<|
 fnC fnOk86<|
 fnC fnOk18<|
 fnC fnOk87<|
 fnC fnOk88<|
 fnC fnOk192<|
 fnC fnOk82<|
 fnC fnOk186<|
 fnC fnOk271<|
 fnC fnOk39<|
 fnC fnOk40<|
 fnC fnOk95<|
 fnC fnOk185<|
 fnC fnOk198<|
 fnC fnOk286<|
 fnC fnOk306<|
 fnC fnOk307<|
 fnC fnOk362<|
 fnC fnOk217<|
 fnC fnOk304<|
 fnC fnOk203<|
 fnC fnOk296<|
 fnC fnOk297<|
 fnC fnOk266<|
 fnC fnOk268<|
 fnC fnOk347<|
 fnC fnOk276<|
 fnC fnOk179<|
 fnC fnOk174<|
 fnC fnOk274<|
 fnC fnOk272<|
 fnC fnOk251<|
 fnC fnOk99<|
 fnC fnOk284<|
 fnC fnOk367<|
 fnC fnOk242<|
 fnC fnOk33<|
 fnC fnOk108<|
 fnC fnOk53<|
 fnC fnOk206<|
 fnC fnOk47<|
 fnC fnOk101<|
 fnC fnOk98<|
 fnC fnOk191<|
 fnC fnOk181<|
 fnC fnOk348<|
 fnC fnOk338<|
 fnC fnOk200<|
 fnC fnOk351<|
 fnC fnOk379<|
 fnC fnOk330<|
 fnC fnOk59<|
 fnC fnOk208<|
 fnC fnOk127<|
 fnC fnOk278<|
 fnC fnOk113<|
 fnC fnOk201<|
 fnC fnOk199<|
 fnC fnOk205<|
 fnC fnOk204<|
 fnC fnOk277<|
 fnC fnOk102<|
 fnC fnOk273<|
 fnC fnOk371<|
 fnC fnOk289<|
 fnC fnOk372<|
 fnC fnOk290<|
 fnC fnOk370<|
 fnC fnOk288<|
 fnC fnOk369<|
 fnC fnOk287<|
 fnC fnOk381<|
 fnC fnOk355<|
 fnC fnOk382<|
 fnC fnOk356<|
 fnC fnOk353<|
 fnC fnOk384<|
 fnC fnOk378<|
 fnC fnOk374<|
 fnC fnOk292<|
 fnC fnOk376<|
 fnC fnOk294<|
 fnC fnOk377<|
 fnC fnOk295<|
 fnC fnOk349<|
 fnC fnOk202<|
 fnC fnOk373<|
 fnC fnOk291<|
 fnC fnOk380<|
 fnC fnOk352<|
 fnC fnOk215<|
 fnC fnOk51<|
 fnC fnOk126<|
 fnC fnOk359<|
 fnC fnOk302<|
 fnC fnOk49<|
 fnC fnOk50<|
 fnC fnOk119<|
 fnC fnOk120<|
 fnC fnOk117<|
 fnC fnOk122<|
 fnC fnOk121<|
 fnC fnOk118<|
 fnC fnOk123<|
 fnC fnOk216<|
 fnC fnOk214<|
 fnC fnOk124<|
 fnC fnOk303<|
 fnC fnOk360<|
 fnC fnOk301<|
  fns_nil
theorem fnT_ok:TblOk Tryz.prog fnT.get:=tbl_ok fns_ok
theorem mixed_ok:Tryz.prog.follows .mixedOrders=true:=by kernel_rfl
end Go.Proofs.YtifehdoghfnhoaaGreatDoor.Ev
