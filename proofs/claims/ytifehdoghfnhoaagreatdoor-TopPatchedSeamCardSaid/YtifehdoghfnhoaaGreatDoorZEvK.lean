/- Closed calls are reckoned by the kernel: changes of a heap; a step that sees a part of the heap. -/
import Derived.Test.YtifehdoghfnhoaaGreatDoorZEvMp
namespace Go.Proofs.YtifehdoghfnhoaaGreatDoor.Ev
noncomputable section
open Go.RowKit Go.Shelf
def noEff:Option AV->Option (AV×HEff)
 |some v=>some (v,.no)
 |none=>none
def builtinA(P:Program)(A:T AV)(H:Nat->Option AO)(k:Nat)(ty:TypeId)(c:Call):Builtin->Option (AV×HEff)
 | .len=>match c.args.toList,c.argTypes.toList with
   |[x],[t]=>match evA A x with
    | .mp n=>mlenA H t (.mp n)
    |_=>lenA P t ty (evA A x)
   |_,_=>none
 | .delete=>match c.args.toList,c.argTypes.toList with
   |[x,y],[t,t']=>match mapT t with
    |some (kt,_)=>bif Nat.beq kt t' then delA H t (evA A x) (evA A y)else none
    |none=>none
   |_,_=>none
 | .cap=>match c.args.toList,c.argTypes.toList with
   |[x],[t]=>capA P t ty (evA A x)
   |_,_=>none
 | .copy=>match c.args.toList,c.argTypes.toList with
   |[x,y],[t,_]=>copyA P H t (evA A x) (evA A y)
   |_,_=>none
 | .clear=>match c.args.toList,c.argTypes.toList with
   |[x],[t]=>clearA P H t (evA A x)
   |_,_=>none
 | .append=>match c.args.toList,c.argTypes.toList with
   |[x,y],[t,t']=>bif Nat.beq t t' then(match appE P t (evA A x) (evA A y)with
    |some r=>some r
    |none=>appA P H k t (evA A x) (evA A y))else appZ P k t t' (evA A x) (evA A y)
   |_,_=>none
 | .unsafeSliceData=>match c.args.toList with
   |[x]=>sdA (evA A x)
   |_=>none
 | .unsafeString=>match c.args.toList,c.argTypes.toList with
   |[x,y],[t,_]=>usA P H t (evA A x) (evA A y)
   |_,_=>none
 | .max=>match litsOf (c.args.toList.map (evA A))with
   |some l=>pureB P (Builtin.max_ c.argTypes ty l.toArray)
   |none=>none
 | .min=>match litsOf (c.args.toList.map (evA A))with
   |some l=>pureB P (Builtin.min_ c.argTypes ty l.toArray)
   |none=>none
 |_=>none
def nilT(P:Program)(t:TypeId):AV->AV->Bool
 | .sl _ _ _ _ _ _,.lit (.slice none _ _)=>match P.underlying t with
   |some (.slice _)=>true
   |_=>false
 | .ptr _ _,.lit (.pointer none)=>match P.underlying t with
   |some (.pointer _)=>true
   |_=>false
 |_,_=>false
def nilV(P:Program)(op:BinOp)(t:TypeId)(x y:AV):Option Bool:=bif nilT P t x y then match op with
 | .eql=>some false
 | .neq=>some true
 |_=>none
 else none
def nilEqA(P:Program)(A:T AV)(o:Oper)(op:BinOp)(t:TypeId)(x y:Operand):Option (AV×HEff):=match nilV P op t (evA A x) (evA A y)with
 |some b=>some (.lit (.bool b),.no)
 |none=>litA P A o
def opA(P:Program)(A:T AV)(H:Nat->Option AO)(k:Nat)(o:Oper):Option (AV×HEff):=match o.op with
 | .move x=>some (evA A x,.no)
 | .assign x=>some (evA A x,.no)
 | .pick c x y=>match evA A c with
   | .lit (.bool b)=>some (evA A (if b then x else y),.no)
   |_=>none
 | .extract t ix=>match evA A t with
   | .tup cs=>noEff cs[ix]?
   |_=>litA P A o
 | .nilCheck x=>match evA A x with
   | .ptr n f=>some (.ptr n f,.no)
   | .fn (.func f) l m=>some (.fn (.func f) l m,.no)
   | .yld n=>some (.yld n,.no)
   |_=>litA P A o
 | .makeFunc f x y=>some (.fn f (x.toList.map (evA A)) (y.toList.map (evA A)),.no)
 | .load t x=>match evA A x with
   | .ptr n f=>match H n with
     |some (.cells cs _)=>noEff (loadA P t cs f)
     |_=>none
   |_=>none
 | .store t x y=>match evA A x with
   | .ptr n f=>match H n with
     |some (.cells cs tt)=>match storeA P t cs tt f (evA A y)with
      |some ob=>some (.lit undef,.wr n ob)
      |none=>none
     |_=>none
   |_=>none
 | .alloc t=>match P.info? t with
   |some i=>match i.zero with
    |some z=>some (.ptr k 0,.new (.cells (z.cells.toList.map .lit) t))
    |none=>none
   |none=>none
 | .box t x=>bif (evA A x).alive then some (.ptr k 0,.new (.cells (evA A x).cells t))else none
 | .build t ps=>noEff (buildA P t (partsA A ps.toList))
 | .buildSlice t n ps=>match buildSliceA P t n (partsA A ps.toList)with
   |some (ob,es)=>some (.sl k 0 n n es true,.new ob)
   |none=>none
 | .makeSlice t x y=>match(evA A x).nat?,(evA A y).nat? with
   |some l,some c=>match makeSliceA P t l c with
    |some (ob,es)=>some (.sl k 0 l c es true,.new ob)
    |none=>none
   |_,_=>none
 | .fieldAddr s x f=>match evA A x with
   | .ptr n p=>match fieldAddrA P s f with
     |some q=>some (.ptr n (p+q),.no)
     |none=>none
   |_=>none
 | .indexAddr t x y=>match evA A x,(evA A y).nat? with
   | .sl n p l _ _ _,some i=>match indexSl P t with
     |some q=>bif Nat.blt i l then some (.ptr n (p+i*q),.no)else none
     |none=>none
   | .ptr n p,some i=>match indexAr P t with
     |some (m,q)=>bif Nat.blt i m then some (.ptr n (p+i*q),.no)else none
     |none=>none
   |_,_=>none
 | .field t x f=>match evA A x with
   | .agg cs=>noEff (fieldA P t cs f)
   |_=>litA P A o
 | .index t x y=>match evA A x,(evA A y).nat? with
   | .agg cs,some i=>noEff (indexA P t cs i)
   |_,_=>litA P A o
 | .slice t x lo hi mx=>match evA A x with
   | .lit _=>litA P A o
   |_=>match natO A lo,natO A hi,natO A mx with
    |some l,some h,some m=>noEff (sliceA P H t (evA A x) l h m)
    |_,_,_=>none
 | .makeMap t none=>match mapT t with
   |some (kt,_)=>some (.mp k,.new (.mp kt (.map []) 0 []))
   |none=>none
 | .mapUpdate t m x y=>updA H t (evA A m) (evA A x) (evA A y)
 | .insert t m x y=>updA H t (evA A m) (evA A x) (evA A y)
 | .lookup t m x ok=>lookA H t (evA A m) (evA A x) ok
 | .binOp op t x y _=>nilEqA P A o op t x y
 | .unOp _ _ _=>litA P A o
 | .convert _ _ _=>litA P A o
 | .call c=>match c.callee with
   | .builtin b=>builtinA P A H k o.type c b
   |_=>none
 |_=>none
section
variable{N:Nat}{ρ:Rho}{H:Nat->Option AO}{k:Nat}{P:Program}{o:Oper}{a:Act}{W:World}{A:T AV}
theorem list1{α:Type}{l:Array α}{x:α}(h:l.toList=[x]):l=#[x]:=by rw[<-Array.toArray_toList (xs:=l),h]
theorem list2{α:Type}{l:Array α}{x y:α}(h:l.toList=[x,y]):l=#[x,y]:=by rw[<-Array.toArray_toList (xs:=l),h]
theorem builtin_sound(hP:P=Tryz.prog){c:Call}{b:Builtin}(ho:o.op=.call c)(hb:c.callee=.builtin b)(hl:Looks ρ A a o)(h:RelH N ρ H W){r:AV×HEff}(hk:r.2.next k≠k->ρ k=none)(he:builtinA P A H k o.type c b=some r):Sound N ρ H k P o a W r:=by
 have hargs:=args_rel ho hl
 have hrun:=builtin_run (a:=a) ho hb
 cases b with
 |len=>
  simp only[builtinA]at he
  split at he
  ·rename_i x t hx ht
   rw[hx]at hargs hrun
   obtain⟨u,us,h1,h2,h3⟩:=hargs
   rw[list1 ht,h3,show us=[]from h2]at hrun
   split at he
   ·rename_i n hn
    rw[hn]at h1
    subst hP
    obtain⟨e1,w,e2,e3⟩:=mlen_run (ty:=o.type) h h1 he
    obtain⟨r1,r2⟩:=r
    cases e1
    exact Sound.val h hrun e2 e3
   ·obtain⟨e1,w,e2,e3⟩:=lenA_run (W:=W) h1 he
    obtain⟨r1,r2⟩:=r
    cases e1
    exact Sound.val h hrun e2 e3
  ·cases he
 |delete=>
  simp only[builtinA]at he
  split at he
  ·rename_i x y t t' hx ht
   rw[hx]at hargs hrun
   obtain⟨u,us,h1,⟨u2,us2,h2,h4,h5⟩,h3⟩:=hargs
   rw[list2 ht,h3,h5,show us2=[]from h4]at hrun
   split at he
   ·rename_i kt e hkt
    cases hb:Nat.beq kt t' with
    |false=>rw[hb]at he;cases he
    |true=>
     rw[hb,cond_true]at he
     have hbe:=Nat.eq_of_beq_eq_true hb
     subst hbe
     subst hP
     obtain⟨e1,W',e2,e3⟩:=del_run (k:=k) h hkt h1 h2 he o.type
     obtain⟨r1,r2⟩:=r
     cases e1
     exact Sound.make hrun e2 e3 rfl
   ·cases he
  ·cases he
 |cap=>
  simp only[builtinA]at he
  split at he
  ·rename_i x t hx ht
   rw[hx]at hargs hrun
   obtain⟨u,us,h1,h2,h3⟩:=hargs
   rw[list1 ht,h3,show us=[]from h2]at hrun
   obtain⟨e1,w,e2,e3⟩:=capA_run (W:=W) h1 he
   obtain⟨r1,r2⟩:=r
   cases e1
   exact Sound.val h hrun e2 e3
  ·cases he
 |clear=>
  simp only[builtinA]at he
  split at he
  ·rename_i x t hx ht
   rw[hx]at hargs hrun
   obtain⟨u,us,h1,h2,h3⟩:=hargs
   rw[list1 ht,h3,show us=[]from h2]at hrun
   obtain⟨w,W',e2,e3,e4⟩:=clearA_run (k:=k) (ty:=o.type) h h1 he
   exact Sound.make hrun e2 e3 e4
  ·cases he
 |copy=>
  simp only[builtinA]at he
  split at he
  ·rename_i x y t t' hx ht
   rw[hx]at hargs hrun
   obtain⟨u,us,h1,⟨u2,us2,h2,h4,h5⟩,h3⟩:=hargs
   rw[list2 ht,h3,h5,show us2=[]from h4]at hrun
   obtain⟨w,W',e2,e3,e4⟩:=copyA_run (k:=k) (t':=t') (ty:=o.type) h h1 h2 he
   exact Sound.make hrun e2 e3 e4
  ·cases he
 |append=>
  simp only[builtinA]at he
  split at he
  ·rename_i x y t t' hx ht
   rw[hx]at hargs hrun
   obtain⟨u,us,h1,⟨u2,us2,h2,h4,h5⟩,h3⟩:=hargs
   rw[list2 ht,h3,h5,show us2=[]from h4]at hrun
   cases hb:Nat.beq t t' with
   |false=>
    rw[hb]at he
    obtain⟨w,W',ρ',e2,e3,e4⟩:=appZ_run (ty:=o.type) h h1 h2 hk he
    exact Sound.make hrun e2 e3 e4
   |true=>
    rw[hb]at he
    rw[<-Nat.eq_of_beq_eq_true hb]at hrun
    cases hae:appE P t (evA A x) (evA A y)with
    |some r'=>
     simp only[hae]at he
     cases he
     obtain⟨rfl,e2⟩:=appE_run (ty:=o.type) (W:=W) h1 h2 hae
     exact Sound.val h hrun e2 h1
    |none=>
     simp only[hae]at he
     obtain⟨w,W',ρ',e2,e3,e4⟩:=app_run (ty:=o.type) h h1 h2 hk he
     exact Sound.make hrun e2 e3 e4
  ·cases he
 |unsafeSliceData=>
  simp only[builtinA]at he
  split at he
  ·rename_i x hx
   rw[hx]at hargs hrun
   obtain⟨u,us,h1,h2,h3⟩:=hargs
   rw[h3,show us=[]from h2]at hrun
   obtain⟨e1,w,e2,e3⟩:=sdA_run (W:=W) h1 he
   obtain⟨r1,r2⟩:=r
   cases e1
   exact Sound.val h hrun (e2 _ _) e3
  ·cases he
 |unsafeString=>
  simp only[builtinA]at he
  split at he
  ·rename_i x y t t' hx ht
   rw[hx]at hargs hrun
   obtain⟨u,us,h1,⟨u2,us2,h2,h4,h5⟩,h3⟩:=hargs
   rw[list2 ht,h3,h5,show us2=[]from h4]at hrun
   obtain⟨w,W',ρ',e2,e3,e4⟩:=usA_run (k:=k) h h1 h2 he
   exact Sound.make hrun (e2 _ _) e3 e4
  ·cases he
 |max=>
  simp only[builtinA]at he
  cases hx:litsOf (c.args.toList.map (evA A))with
  |none=>rw[hx]at he;cases he
  |some l=>
   simp only[hx,pureB]at he
   rw[litsOf_rel hx hargs]at hrun
   cases hp:pureRun P (Builtin.max_ c.argTypes o.type l.toArray)with
   |none=>rw[hp]at he;cases he
   |some v=>rw[hp]at he;cases he;exact Sound.val h hrun (pureRun_run hp W) rfl
 |min=>
  simp only[builtinA]at he
  cases hx:litsOf (c.args.toList.map (evA A))with
  |none=>rw[hx]at he;cases he
  |some l=>
   simp only[hx,pureB]at he
   rw[litsOf_rel hx hargs]at hrun
   cases hp:pureRun P (Builtin.min_ c.argTypes o.type l.toArray)with
   |none=>rw[hp]at he;cases he
   |some v=>rw[hp]at he;cases he;exact Sound.val h hrun (pureRun_run hp W) rfl
 |_=>cases he
theorem noEff_some{x:Option AV}{r:AV×HEff}(h:noEff x=some r):x=some r.1/\r.2=.no:=by
 cases x with
 |none=>cases h
 |some v=>cases h;exact⟨rfl,rfl⟩
theorem nilT_run{ρ:Rho}{W:World}{P:Program}{t:TypeId}{x y:AV}{u v:Value}(h:nilT P t x y=true)(hx:RelV ρ x u)(hy:RelV ρ y v):(∀op p q,(eqGuard op t p q u v).run P W=.ok () W)/\(binOp .eql t u v).run P W=.ok (.bool false) W/\(binOp .neq t u v).run P W=.ok (.bool true) W:=by
 unfold nilT at h
 split at h
 ·rename_i n o l lb es ex l2 c2
  split at h
  ·rename_i el hu
   obtain⟨b,κ,c,h1,h2,h3⟩:=hx
   have hy:v=_:=hy
   subst h2 hy
   refine⟨λop p q=>by cases op<;>rfl,?_,?_⟩
   ·show(do pure (Value.bool (<-Op.equalIn 10000 t _ _))).run P W=_
    unfold Op.equalIn
    rw[Sem.run_bind,Sem.run_bind,run_underlying hu]
    rfl
   ·show(do pure (Value.bool (!(<-Op.equalIn 10000 t _ _)))).run P W=_
    unfold Op.equalIn
    rw[Sem.run_bind,Sem.run_bind,run_underlying hu]
    rfl
  ·cases h
 ·rename_i n o
  split at h
  ·rename_i el hu
   obtain⟨b,κ,h1,h2⟩:=hx
   have hy:v=_:=hy
   subst h2 hy
   refine⟨λop p q=>by cases op<;>rfl,?_,?_⟩
   ·show(do pure (Value.bool (<-Op.equalIn 10000 t _ _))).run P W=_
    unfold Op.equalIn
    rw[Sem.run_bind,Sem.run_bind,run_underlying hu]
    rfl
   ·show(do pure (Value.bool (!(<-Op.equalIn 10000 t _ _)))).run P W=_
    unfold Op.equalIn
    rw[Sem.run_bind,Sem.run_bind,run_underlying hu]
    rfl
  ·cases h
 ·cases h
theorem nilEq_sound{op:BinOp}{t t':TypeId}{x y:Operand}(ho:o.op=.binOp op t x y t')(hl:Looks ρ A a o)(h:RelH N ρ H W){r:AV×HEff}(he:nilEqA P A o op t x y=some r):Sound N ρ H k P o a W r:=by
 unfold nilEqA at he
 split at he
 ·rename_i b hb
  cases he
  unfold nilV at hb
  cases hn:nilT P t (evA A x) (evA A y)with
  |false=>rw[hn]at hb;cases hb
  |true=>
   rw[hn,cond_true]at hb
   have h1:=nilT_run (W:=W) hn (hl x (by rw[ho];simp[Op.operands])) (hl y (by rw[ho];simp[Op.operands]))
   have hex:execOp a.eval o=(do pure (.value (<-(do eqGuard op t x y (a.eval x) (a.eval y);binOp op t (a.eval x) (a.eval y))))):=by unfold execOp;rw[ho]
   cases op with
   |eql=>
    cases hb
    refine Sound.val h hex (v:=.bool false) ?_ rfl
    rw[Sem.run_bind,h1.1,Result.andThen_ok]
    exact h1.2.1
   |neq=>
    cases hb
    refine Sound.val h hex (v:=.bool true) ?_ rfl
    rw[Sem.run_bind,h1.1,Result.andThen_ok]
    exact h1.2.2
   |_=>cases hb
 ·exact litA_sound hl h he
theorem opA_sound(hP:P=Tryz.prog)(hl:Looks ρ A a o)(h:RelH N ρ H W){r:AV×HEff}(hk:r.2.next k≠k->ρ k=none)(he:opA P A H k o=some r):Sound N ρ H k P o a W r:=by
 unfold opA at he
 split at he
 ·rename_i x ho;cases he;exact move_sound (.inl ho) hl h
 ·rename_i x ho;cases he;exact move_sound (.inr ho) hl h
 ·rename_i c x y ho
  split at he
  ·rename_i b hb;cases he;exact pick_sound ho hl h hb
  ·cases he
 ·rename_i t ix ho
  split at he
  ·rename_i cs hc
   obtain⟨e1,e2⟩:=noEff_some he
   obtain⟨r1,r2⟩:=r
   cases e2
   exact extract_sound ho hl h hc e1
  ·exact litA_sound hl h he
 ·rename_i x ho
  split at he
  ·rename_i n f hc;cases he;exact nilPtr_sound ho hl h hc
  ·rename_i f l m hc;cases he;exact nilFn_sound ho hl h hc (λm e=>by cases e)
  ·rename_i n hc;cases he;exact nilYld_sound ho hl h hc
  ·exact litA_sound hl h he
 ·rename_i f x y ho;cases he;exact makeFunc_sound ho hl h
 ·rename_i t x ho
  split at he
  ·rename_i n f hx
   split at he
   ·rename_i cs tt hn
    obtain⟨e1,e2⟩:=noEff_some he
    obtain⟨r1,r2⟩:=r
    cases e2
    exact load_sound ho hl h hx hn e1
   ·cases he
  ·cases he
 ·rename_i t x y ho
  split at he
  ·rename_i n f hx
   split at he
   ·rename_i cs tt hn
    split at he
    ·rename_i ob hs;cases he;exact store_sound ho hl h hx hn hs
    ·cases he
   ·cases he
  ·cases he
 ·rename_i t ho
  split at he
  ·rename_i i hi
   split at he
   ·rename_i z hz;cases he;exact alloc_sound ho h (hk (Nat.succ_ne_self k)) hi hz
   ·cases he
  ·cases he
 ·rename_i t x ho
  cases hal:(evA A x).alive with
  |false=>rw[hal]at he;cases he
  |true=>rw[hal]at he;cases he;exact box_sound hal ho hl h (hk (Nat.succ_ne_self k))
 ·rename_i t ps ho
  obtain⟨e1,e2⟩:=noEff_some he
  obtain⟨r1,r2⟩:=r
  cases e2
  exact build_sound ho hl h e1
 ·rename_i t n ps ho
  split at he
  ·rename_i ob es hb;cases he;exact buildSlice_sound ho hl h (hk (Nat.succ_ne_self k)) hb
  ·cases he
 ·rename_i t x y ho
  split at he
  ·rename_i l c hx hy
   split at he
   ·rename_i ob es hb;cases he;exact makeSlice_sound ho hl h (hk (Nat.succ_ne_self k)) hx hy hb
   ·cases he
  ·cases he
 ·rename_i s x f ho
  split at he
  ·rename_i n p hx
   split at he
   ·rename_i q hq;cases he;exact fieldAddr_sound ho hl h hx hq
   ·cases he
  ·cases he
 ·rename_i t x y ho
  split at he
  ·rename_i n p l lb es ex i hx hy
   split at he
   ·rename_i q hq
    cases hb:Nat.blt i l with
    |false=>rw[hb]at he;cases he
    |true=>rw[hb]at he;cases he;exact indexSl_sound ho hl h hx hy (Nat.le_of_ble_eq_true hb) hq
   ·cases he
  ·rename_i n p i hx hy
   split at he
   ·rename_i m q hq
    cases hb:Nat.blt i m with
    |false=>rw[hb]at he;cases he
    |true=>rw[hb]at he;cases he;exact indexAr_sound ho hl h hx hy hq (Nat.le_of_ble_eq_true hb)
   ·cases he
  ·cases he
 ·rename_i t x f ho
  split at he
  ·rename_i cs hx
   obtain⟨e1,e2⟩:=noEff_some he
   obtain⟨r1,r2⟩:=r
   cases e2
   exact field_sound ho hl h hx e1
  ·exact litA_sound hl h he
 ·rename_i t x y ho
  split at he
  ·rename_i cs i hx hy
   obtain⟨e1,e2⟩:=noEff_some he
   obtain⟨r1,r2⟩:=r
   cases e2
   exact index_sound ho hl h hx hy e1
  ·exact litA_sound hl h he
 ·rename_i t x lo hi mx ho
  split at he
  ·exact litA_sound hl h he
  ·split at he
   ·rename_i l h' m e1 e2 e3
    obtain⟨e4,e5⟩:=noEff_some he
    obtain⟨r1,r2⟩:=r
    cases e5
    exact slice_sound ho hl h e1 e2 e3 e4
   ·cases he
 ·rename_i t ho
  split at he
  ·rename_i kt e ht
   cases he
   subst hP
   exact makeMap_sound ho h (hk (Nat.succ_ne_self k)) kt
  ·cases he
 ·rename_i t m x y ho
  subst hP
  obtain⟨e1,W',e2,e3⟩:=upd_run (k:=k) h (hl m (by rw[ho];simp[Op.operands])) (hl x (by rw[ho];simp[Op.operands])) (hl y (by rw[ho];simp[Op.operands])) he
  obtain⟨r1,r2⟩:=r
  cases e1
  exact Sound.unit (s:=Instr.mapUpdate t (a.eval m) (a.eval x) (a.eval y)) (by unfold execOp;rw[ho]) e2 e3
 ·rename_i t m x y ho
  subst hP
  obtain⟨e1,W',e2,e3⟩:=upd_run (k:=k) h (hl m (by rw[ho];simp[Op.operands])) (hl x (by rw[ho];simp[Op.operands])) (hl y (by rw[ho];simp[Op.operands])) he
  obtain⟨r1,r2⟩:=r
  cases e1
  exact Sound.unit (s:=Instr.mapUpdate t (a.eval m) (a.eval x) (a.eval y)) (by unfold execOp;rw[ho]) e2 e3
 ·rename_i t m x ok ho
  subst hP
  obtain⟨e1,u,e2,e3⟩:=look_run h (hl m (by rw[ho];simp[Op.operands])) (hl x (by rw[ho];simp[Op.operands])) he
  obtain⟨r1,r2⟩:=r
  cases e1
  exact Sound.val h (s:=Instr.lookup t (a.eval m) (a.eval x) ok) (by unfold execOp;rw[ho]) e2 e3
 ·rename_i op t x y t' ho;exact nilEq_sound ho hl h he
 ·exact litA_sound hl h he
 ·exact litA_sound hl h he
 ·rename_i c ho
  split at he
  ·rename_i b hb;exact builtin_sound hP ho hb hl h hk he
  ·cases he
 ·cases he
end
end
end Go.Proofs.YtifehdoghfnhoaaGreatDoor.Ev
namespace Go.Proofs.YtifehdoghfnhoaaGreatDoor.Ev
noncomputable section
open Go.RowKit Go.Shelf
abbrev Hp:=Nat->Option AO
abbrev Dl:=List (Nat×Option AO)
def look(d:Dl):Nat->Option (Option AO):=List.rec (motive:=λ_=>Nat->Option (Option AO)) (λ_=>none) (λp _ ih n=>bif Nat.beq p.1 n then some p.2 else ih n) d
def ovr(d:Dl)(H:Hp):Hp:=λn=>match look d n with
 |some x=>x
 |none=>H n
def HEff.dl(k:Nat):HEff->Dl
 | .no=>[]
 | .new o=>[(k,some o)]
 | .wr n o=>[(n,some o)]
 | .app n o=>[(k,some o),(n,none)]
 | .hide n=>[(n,none)]
theorem look_cons(m:Nat)(x:Option AO)(l:Dl)(n:Nat):look ((m,x)::l) n=if n=m then some x else look l n:=by
 show(bif Nat.beq m n then some x else look l n)=_
 by_cases e:n=m
 ·subst e;rw[T.beq_yes rfl,if_pos rfl];rfl
 ·rw[T.beq_no (λh=>e h.symm),if_neg e];rfl
theorem app_nil(H:Hp):ovr [] H=H:=rfl
theorem app_cons(m:Nat)(x:Option AO)(l:Dl)(H:Hp):ovr ((m,x)::l) H=upH (ovr l H) m x:=by
 funext n
 unfold ovr upH
 rw[look_cons]
 by_cases e:n=m
 ·rw[if_pos e,if_pos e]
 ·rw[if_neg e,if_neg e]
theorem app_dl(H:Hp)(k:Nat)(e:HEff):ovr (e.dl k) H=e.heap H k:=by cases e<;>simp only[HEff.dl,HEff.heap,app_cons,app_nil]
theorem look_append(d2 d1:Dl)(n:Nat):look (d2++d1) n=match look d2 n with|some x=>some x|none=>look d1 n:=by
 induction d2 with
 |nil=>rfl
 |cons p d2 ih=>
  obtain⟨m,x⟩:=p
  rw[List.cons_append,look_cons,look_cons,ih]
  by_cases e:n=m
  ·rw[if_pos e,if_pos e]
  ·rw[if_neg e,if_neg e]
def Sub(H G:Hp):Prop:=∀n o,H n=some o->G n=some o
theorem Sub.live{H G:Hp}(h:Sub H G){n:Nat}(hn:H n≠none):G n≠none:=by
 cases hx:H n with
 |none=>exact absurd hx hn
 |some o=>rw[h n o hx];simp
theorem RelH.sub{N:Nat}{ρ:Rho}{H G:Hp}{W:World}(h:RelH N ρ G W)(hs:Sub H G):RelH N ρ H W:=
 ⟨λn o ho=>h.obj n o (hs n o ho),λn m b κ κ' hn hm=>h.inj n m b κ κ' (hs.live hn) (hs.live hm),h.size⟩
theorem Free.sub{ρ:Rho}{k k' j j':Nat}(h:Free ρ k k')(h1:k<=j)(h2:j'<=k'):Free ρ j j':=λn a b=>h n (by omega) (by omega)
theorem Free.post{N:Nat}{ρ ρ':Rho}{H H':Hp}{W W':World}{k k' k'':Nat}(h:Free ρ k k'')(hp:Post N ρ H W H' k k' ρ' W')(hk:k<=k'):Free ρ' k' k'':=λn a b=>by
 rw[hp.only n (by omega)];exact h n (by omega) b
def Touch(H:Hp)(d:Dl)(k k':Nat):Prop:=∀n,look d n≠none->H n≠none\/(k<=n/\n<k')
theorem Touch.sub{H G:Hp}{d:Dl}{k k':Nat}(h:Touch H d k k')(hs:Sub H G):Touch G d k k':=λn hn=>(h n hn).imp hs.live id
theorem look_app{d:Dl}{H:Hp}{n:Nat}(h:look d n=none):ovr d H n=H n:=by unfold ovr;rw[h]
theorem look_app2{d:Dl}{H G:Hp}{n:Nat}(h:look d n≠none):ovr d H n=ovr d G n:=by
 unfold ovr
 cases hx:look d n with
 |none=>exact absurd hx h
 |some x=>rfl
theorem Post.frame{N:Nat}{ρ ρ':Rho}{H G:Hp}{W W':World}{d:Dl}{k k':Nat}(hp:Post N ρ H W (ovr d H) k k' ρ' W')(hs:Sub H G)(hG:RelH N ρ G W)(_:Touch H d k k')(hf:Free ρ k k'):Post N ρ G W (ovr d G) k k' ρ' W':=by
 have hnew:∀n o,G n=some o->¬(k<=n/\n<k'):=λn o ho h=>by
  obtain⟨b,κ,h1,_⟩:=hG.obj n o ho
  rw[hf n h.1 h.2]at h1
  cases h1
 have hcase:∀n o,ovr d G n=some o->ovr d H n=some o\/(G n=some o/\H n=none/\look d n=none):=λn o ho=>by
  by_cases hl:look d n=none
  ·rw[look_app hl]at ho
   cases hx:H n with
   |none=>exact .inr ⟨ho,rfl,hl⟩
   |some o'=>
    have:=hs n o' hx
    rw[ho]at this
    cases this
    exact .inl (by rw[look_app hl];exact hx)
  ·exact .inl ((look_app2 hl).trans ho)
 have hout:∀n o b κ,G n=some o->H n=none->ρ n=some (b,κ)->¬InH ρ H b:=λn o b κ ho hn hr⟨m,κ',hm,hr'⟩=>by
  have:=hG.inj n m b κ κ' (by rw[ho];simp) (hs.live hm) hr hr'
  subst this
  exact hm hn
 have hlt:∀n o b κ,G n=some o->ρ n=some (b,κ)->b<W.heap.size:=λn o b κ ho hr=>by
  obtain⟨b',κ',h1,_,h3⟩:=hG.obj n o ho
  rw[hr]at h1
  cases h1
  exact h3.lt
 refine⟨hp.le,hp.only,⟨λn o ho=>?_,λn m b κ κ' hn hm h1 h2=>?_,hp.heap.size⟩,⟨hp.keep.os,hp.keep.tape,hp.keep.output,hp.keep.size,λb hb hi=>hp.keep.block b hb (λ⟨m,κ,hm,hr⟩=>hi ⟨m,κ,hs.live hm,hr⟩)⟩,λb⟨n,κ,hn,hr⟩=>?_⟩
 ·rcases hcase n o ho with h|⟨h1,h2,h3⟩
  ·exact hp.heap.obj n o h
  ·obtain⟨b,κ,h4,h5,h6⟩:=hG.obj n o h1
   refine⟨b,κ,hp.le _ _ h4,h5,(h6.blk (hp.keep.block b h6.lt (hout n o b κ h1 h2 h4))).mono hp.le⟩
 ·have hval:∀m,ovr d G m≠none->∃o,ovr d G m=some o:=λm hm=>by
   cases hx:ovr d G m with
   |none=>exact absurd hx hm
   |some o=>exact⟨o,rfl⟩
  have hrho:∀n o b κ,G n=some o->ρ' n=some (b,κ)->ρ n=some (b,κ):=λn o b κ ho hr=>by
   rw[hp.only n (hnew n o ho)]at hr;exact hr
  have hmix:∀n m o o' b κ κ',ovr d H n=some o->G m=some o'->H m=none->ρ' n=some (b,κ)->ρ' m=some (b,κ')->False:=λn m o o' b κ κ' hn' hm' hmn h1' h2'=>by
   have h2'':=hrho m o' b κ' hm' h2'
   rcases hp.from_ b ⟨n,κ,by rw[hn'];simp,h1'⟩with h|h
   ·exact hout m o' b κ' hm' hmn h2'' h
   ·have:=hlt m o' b κ' hm' h2'';omega
  obtain⟨o,ho⟩:=hval n hn
  obtain⟨o',ho'⟩:=hval m hm
  rcases hcase n o ho with h|⟨h3,h4,h5⟩
  ·rcases hcase m o' ho' with h'|⟨h3',h4',h5'⟩
   ·exact hp.heap.inj n m b κ κ' (by rw[h];simp) (by rw[h'];simp) h1 h2
   ·exact(hmix n m o o' b κ κ' h h3' h4' h1 h2).elim
  ·rcases hcase m o' ho' with h'|⟨h3',h4',h5'⟩
   ·exact(hmix m n o' o b κ' κ h' h3 h4 h2 h1).elim
   ·exact hG.inj n m b κ κ' (by rw[h3];simp) (by rw[h3'];simp) (hrho n o b κ h3 h1) (hrho m o' b κ' h3' h2)
 ·cases hx:ovr d G n with
  |none=>exact absurd hx hn
  |some o=>
   rcases hcase n o hx with h|⟨h1,h2,h3⟩
   ·rcases hp.from_ b ⟨n,κ,by rw[h];simp,hr⟩with⟨m,κ',hm,hr'⟩|h'
    ·exact .inl ⟨m,κ',hs.live hm,hr'⟩
    ·exact .inr h'
   ·rw[hp.only n (hnew n o h1)]at hr
    exact .inl ⟨n,κ,by rw[h1];simp,hr⟩
theorem Post.less{N:Nat}{ρ ρ':Rho}{H H' H'':Hp}{W W':World}{k k':Nat}(hp:Post N ρ H W H' k k' ρ' W')(hs:Sub H'' H'):Post N ρ H W H'' k k' ρ' W':=
 ⟨hp.le,hp.only,hp.heap.sub hs,hp.keep,λb⟨n,κ,hn,hr⟩=>hp.from_ b ⟨n,κ,hs.live hn,hr⟩⟩
theorem Post.more{N:Nat}{ρ ρ':Rho}{H H':Hp}{W W':World}{k k' j:Nat}(hp:Post N ρ H W H' k k' ρ' W')(hj:k'<=j):Post N ρ H W H' k j ρ' W':=
 ⟨hp.le,λn hn=>hp.only n (by omega),hp.heap,hp.keep,hp.from_⟩
structure Rs where
 v:AV
 d:Dl
 k:Nat
def Out(N:Nat)(ρ:Rho)(H:Hp)(W:World)(k:Nat)(r:Rs)(v:Value)(W':World):Prop:=∃ρ',Post N ρ H W (ovr r.d H) k r.k ρ' W'/\RelV ρ' r.v v
theorem Out.frame{N:Nat}{ρ:Rho}{H G:Hp}{W W':World}{k:Nat}{r:Rs}{v:Value}(h:Out N ρ H W k r v W')(hs:Sub H G)(hG:RelH N ρ G W)(ht:Touch H r.d k r.k)(hf:Free ρ k r.k):Out N ρ G W k r v W':=
 let⟨ρ',h1,h2⟩:=h
 ⟨ρ',h1.frame hs hG ht hf,h2⟩
def Fc:Option Nat->Fence
 |none=>Fence.wide
 |some l=>Fence.wide.inRound l
theorem fc_in(r:Option Nat)(l:Nat):(Fc r).inRound l=Fc (some l):=by cases r<;>rfl
theorem fc_lets(r:Option Nat)(n:Nat)(P:Program):Lets (Fc r) n P:=by
 cases r
 ·exact lets_wide n P
 ·exact lets_round _ n P
theorem fc_fn(r:Option Nat)(f:FuncId):(Fc r).fn f:=by cases r<;>trivial
structure OpOk(P:Program)(o:Oper)(A:T AV)(H:Hp)(k:Nat)(r:Rs):Prop where
 le:k<=r.k
 touch:Touch H r.d k r.k
 does:∀{N:Nat}{ρ:Rho}{a:Act}{W:World}(R:Option Nat)(n:Nat),RelH N ρ H W->Looks ρ A a o->Free ρ k r.k->∀(K:Act->World->Prop)(Q:Exit->Act->World->Prop),(∀v W',Out N ρ H W k r v W'->K (a.put o.dst v) W')->o.wpIn (Fc R) n P a W K Q
inductive Tgt where
 |fn (f:Nat)
 |yld (n:Nat)
structure TgtOk(P:Program)(t:Tgt)(args:List AV)(H:Hp)(k:Nat)(r:Rs):Prop where
 le:k<=r.k
 touch:Touch H r.d k r.k
 does:∀{N:Nat}{ρ:Rho}{W:World}{vs:List Value},RelH N ρ H W->RelL ρ args vs->Free ρ k r.k->match t with
  | .fn f=>(∀W,(callFunc f vs.toArray).run P W=.ok (.enter f vs.toArray) W)/\Calls P f vs.toArray W (λe W'=>∃v,e=.returned v/\Out N ρ H W k r v W')
  | .yld m=>∀b κ,ρ m=some (b,κ)->∀(R:Option Nat)(n:Nat),∃(f:FuncId)(tmps:Array Value)(asg body:Code),(Instr.yield b vs.toArray).run P W=.ok (.round b f tmps asg body) W/\RoundIn (Fc R) n P b f tmps asg body W (λe W'=>∃v,e=.returned v/\Out N ρ H W k r v W')
abbrev Ev:=Tgt->List AV->Hp->Nat->Option Rs
def EvOk(P:Program)(ev:Ev):Prop:=P=Tryz.prog/\∀t args H k r,ev t args H k=some r->TgtOk P t args H k r
end
end Go.Proofs.YtifehdoghfnhoaaGreatDoor.Ev
