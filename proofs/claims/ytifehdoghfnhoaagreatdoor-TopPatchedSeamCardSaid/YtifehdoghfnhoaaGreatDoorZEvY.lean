/- Closed calls are reckoned by the kernel: a loop over a map whose rounds leave all as it is, but for one at most, that returns; whatever order the entries come in. -/
import Derived.Test.YtifehdoghfnhoaaGreatDoorZEvT
import Derived.Maps.Ext
import Derived.Test.YtifehdoghfnhoaaGreatDoorZEvR
namespace Go.Proofs.YtifehdoghfnhoaaGreatDoor.Ev
noncomputable section
open Go.RowKit Go.Shelf Go.Maps
theorem findK_is{kf:Value->Option Lit}{kl:Lit}:∀{ks:List Value}{key:Value},findK kf kl ks=some key->kf key=some kl
 |[],key,h=>by cases h
 |k::ks,key,h=>by
  simp only[findK]at h
  split at h
  ·rename_i l hl
   cases hb:litEq l kl with
   |false=>rw[hb]at h;exact findK_is h
   |true=>rw[hb]at h;cases h;rw[hl,litEq_is hb]
  ·exact findK_is h
theorem allR_is{f:Value->Value->Lit->Option (Nat×Bool)}{kf:Value->Option Lit}{ks:List Value}:∀{es:List (Lit×DataW Value)}{k km:Nat}{l:List (Lit×Bool)},allR f kf ks es k=some (km,l)->
 k<=km/\(∀q∈es,∃key v k' b,kf key=some q.1/\q.2=.held v/\f key v q.1=some (k',b)/\k'<=km/\(q.1,b)∈l)/\∀q∈l,∃d,(q.1,d)∈es
 |[],k,km,l,h=>by cases h;exact⟨Nat.le_refl _,(λq hq=>by cases hq),(λq hq=>by cases hq)⟩
 |(kl,d)::es,k,km,l,h=>by
  simp only[allR]at h
  split at h
  ·rename_i key v hk hv
   split at h
   ·rename_i k' b hf
    split at h
    ·rename_i km' l' hr
     cases h
     obtain⟨h1,h2,h3⟩:=allR_is hr
     have hmx:k<=(bif Nat.ble k k' then k' else k)/\k'<=(bif Nat.ble k k' then k' else k):=by
      cases hb:Nat.ble k k' with
      |true=>exact⟨Nat.le_of_ble_eq_true hb,Nat.le_refl _⟩
      |false=>
       refine⟨Nat.le_refl _,?_⟩
       apply Classical.byContradiction
       intro hn
       have:Nat.ble k k'=true:=Nat.ble_eq_true_of_le (by
        have hn:¬k'<=k:=hn
        omega)
       rw[hb]at this
       cases this
     have hd:d=.held v:=by
      unfold heldV at hv
      split at hv
      ·cases hv;rfl
      ·cases hv
     refine⟨Nat.le_trans hmx.1 h1,λq hq=>?_,λq hq=>?_⟩
     ·rcases List.mem_cons.1 hq with rfl|hq
      ·exact⟨key,v,k',b,findK_is hk,hd,hf,Nat.le_trans hmx.2 h1,List.mem_cons_self ..⟩
      ·obtain⟨key',v',k'',b',g1,g2,g3,g4,g5⟩:=h2 q hq
       exact⟨key',v',k'',b',g1,g2,g3,g4,List.mem_cons_of_mem _ g5⟩
     ·rcases List.mem_cons.1 hq with rfl|hq
      ·exact⟨d,List.mem_cons_self ..⟩
      ·obtain⟨d',hd'⟩:=h3 q hq
       exact⟨d',List.mem_cons_of_mem _ hd'⟩
    ·cases h
   ·cases h
  ·cases h
theorem delsD_is:∀(l:List (Lit×Bool))(D:DataW Value)(z:Lit),((z,true)∈l->has (delsD l D) z=false)/\((z,true)∉l->has (delsD l D) z=has D z/\∀w,(delsD l D).atKey z w=D.atKey z w):=by
 intro l
 induction l with
 |nil=>intro D z;exact⟨(λh=>by cases h),(λ_=>⟨rfl,λ_=>rfl⟩)⟩
 |cons q l ih=>
  intro D z
  obtain⟨kl,b⟩:=q
  cases b with
  |false=>
   have e:delsD ((kl,false)::l) D=delsD l D:=rfl
   rw[e]
   refine⟨λh=>(ih D z).1 (by simpa using h),λh=>(ih D z).2 (λh'=>h (List.mem_cons_of_mem _ h'))⟩
  |true=>
   have e:delsD ((kl,true)::l) D=delsD l (D.del kl):=rfl
   rw[e]
   refine⟨λh=>?_,λh=>?_⟩
   ·by_cases hz:(z,true)∈l
    ·exact(ih _ z).1 hz
    ·rw[((ih (D.del kl) z).2 hz).1]
     rcases List.mem_cons.1 h with h1|h1
     ·cases h1;exact has_del_same
     ·exact absurd h1 hz
   ·have hz:(z,true)∉l:=λh'=>h (List.mem_cons_of_mem _ h')
    have hne:z≠kl:=λe=>h (by rw[e];exact List.mem_cons_self ..)
    obtain⟨g1,g2⟩:=(ih (D.del kl) z).2 hz
    exact⟨g1.trans (has_del_other hne),λw=>(g2 w).trans (atKey_del_other hne w)⟩
theorem canon_del{D:DataW Value}(h:Canon D)(kl:Lit):Canon (D.del kl):=by
 obtain⟨es,rfl,h1,h2⟩:=h
 exact⟨es.filter (λp=>!p.1.sameKey kl),rfl,h1.sublist List.filter_sublist,λp hp=>h2 p (List.mem_filter.1 hp).1⟩
theorem canon_dels:∀(l:List (Lit×Bool)){D:DataW Value},Canon D->Canon (delsD l D)
 |[],_,h=>h
 |(kl,b)::l,D,h=>by
  cases b with
  |false=>exact canon_dels l h
  |true=>exact canon_dels l (canon_del h kl)
theorem entry_of{es:List (Lit×DataW Value)}{kl:Lit}{d:DataW Value}(h:∀zd,(DataW.map es).atKey kl zd=d):∃q∈es,q.1=kl/\q.2=d:=by
 unfold DataW.atKey at h
 simp only at h
 cases hf:es.find? (λp=>p.1.sameKey kl)with
 |none=>
  exfalso
  have h1:=h .nil
  have h2:=h (.held undef)
  rw[hf]at h1 h2
  rw[<-h1]at h2
  cases h2
 |some q=>
  have h1:=h .nil
  rw[hf]at h1
  have h2:=List.find?_some hf
  exact⟨q,List.mem_of_find?_eq_some hf,litEq_is h2,h1⟩
theorem killT_get(f:Nat->Bool)(A:T AV)(t:Nat):∀m:Nat,(killT f m A).get t=if t<m/\f t=true then some .dead else A.get t
 |0=>by rw[if_neg (by omega)];rfl
 |m+1=>by
  have ih:=killT_get f A t m
  show(bif f m then(killT f m A).set m (some .dead)else killT f m A).get t=_
  cases hf:f m with
  |false=>
   rw[cond_false,ih]
   by_cases h:t<m/\f t=true
   ·rw[if_pos h,if_pos ⟨by omega,h.2⟩]
   ·rw[if_neg h,if_neg (λh'=>h ⟨by
     rcases Nat.lt_or_eq_of_le (Nat.le_of_lt_succ h'.1)with h2|h2
     ·exact h2
     ·rw[h2,hf]at h';exact absurd h'.2 (by simp),h'.2⟩)]
  |true=>
   rw[cond_true,T.get_set,ih]
   by_cases e:t=m
   ·rw[if_pos e,if_pos ⟨by omega,by rw[e];exact hf⟩]
   ·rw[if_neg e]
    by_cases h:t<m/\f t=true
    ·rw[if_pos h,if_pos ⟨by omega,h.2⟩]
    ·rw[if_neg h,if_neg (λh'=>h ⟨by omega,h'.2⟩)]
theorem ranges_blk{P:Program}{kt:TypeId}{R:Value->Option (DataW Value×List MemPlace)}{b r c cnt:Nat}{D:DataW Value}{left:Lit->Bool}{W W':World}(h:W.ranges P kt R b r c D left cnt)(hb:W'.heap[b]? =W.heap[b]?) (hr:W'.heap[r]? =W.heap[r]?):W'.ranges P kt R b r c D left cnt:=by
 obtain⟨es,clock,since,seen,c0,h1,h2,h3,h4,h5,h6⟩:=h
 exact⟨es,clock,since,seen,c0,hb.trans h1,h2,h3,h4,hr.trans h5,h6⟩
structure LInv(N:Nat)(ρ:Rho)(Hc:Hp)(A:T AV)(nt:Nat)(df:List Nat)(kt:TypeId)(b r c:Nat)(D:DataW Value)(l:List (Lit×Bool))(W0:World)(a:Act)(W:World)(D':DataW Value)(left:Lit->Bool)(cnt:Nat):Prop where
 rg:W.ranges Tryz.prog kt RH b r c D' left cnt
 os:W.os=W0.os
 tape:W.tape=W0.tape
 output:W.output=W0.output
 size:W0.heap.size<=W.heap.size
 block:∀j,j<W0.heap.size->j≠b->j≠r->¬InH ρ Hc j->W.heap[j]? =W0.heap[j]?
 heap:RelH N ρ Hc W
 tmps:RelT ρ A nt a.tmps
 defers:DfR ρ df a.defers
 sub:∀z,left z=true->has D z=true
 here:∀z,has D' z=true↔(has D z=true/\(left z=true\/(z,true)∉l))
 same:∀z w,has D' z=true->D'.atKey z w=D.atKey z w
theorem InH_not{ρ:Rho}{Hc:Hp}{b B:Nat}(h:∀n o,Hc n=some o->∃j κ,ρ n=some (j,κ)/\j<B/\j≠b):¬InH ρ Hc b/\∀r,B<=r->¬InH ρ Hc r:=by
 have key:∀j,InH ρ Hc j->j<B/\j≠b:=λj⟨n,κ,hn,hr⟩=>by
  cases ho:Hc n with
  |none=>exact absurd ho hn
  |some o=>
   obtain⟨j',κ',h1,h2,h3⟩:=h n o ho
   rw[hr]at h1
   cases h1
   exact⟨h2,h3⟩
 exact⟨λhi=>(key b hi).2 rfl,λr hr hi=>by have:=(key r hi).1;omega⟩
theorem linv_next{N:Nat}{ρ:Rho}{Hc:Hp}{A:T AV}{nt:Nat}{df:List Nat}{kt:TypeId}{b r c:Nat}{D:DataW Value}{l:List (Lit×Bool)}{W0:World}{a:Act}{W:World}{D':DataW Value}{left:Lit->Bool}{cnt:Nat}(h:LInv N ρ Hc A nt df kt b r c D l W0 a W D' left cnt)(hb:¬InH ρ Hc b)(hr:¬InH ρ Hc r)
 {W2:World}{kl:Lit}{cnt':Nat}(hg:W.grownBy W2 (some r))(hR2:W2.ranges Tryz.prog kt RH b r c D' (λx=>left x&&!x.sameKey kl) cnt'){a3:Act}{W3:World}(hM:Mid N ρ Hc A nt df W2 a3 W3)(hleft:left kl=true)(hkey:WideAt.IsKeyLit kl):
 W3.ranges Tryz.prog kt RH b r c D' (λx=>left x&&!x.sameKey kl) cnt'/\((kl,true)∉l->LInv N ρ Hc A nt df kt b r c D l W0 a3 W3 D' (λx=>left x&&!x.sameKey kl) cnt')/\
  ∀(W4:World)(cnt4:Nat),(kl,true)∈l->W3.grownBy W4 (some b)->W4.ranges Tryz.prog kt RH b r c (D'.del kl) (λx=>(left x&&!x.sameKey kl)&&!x.sameKey kl) cnt4->LInv N ρ Hc A nt df kt b r c D l W0 a3 W4 (D'.del kl) (λx=>(left x&&!x.sameKey kl)&&!x.sameKey kl) cnt4:=by
 have hlt:b<W2.heap.size/\r<W2.heap.size:=by
  obtain⟨es,clock,since,seen,c0,h1,h2,h3,h4,h5,h6⟩:=hR2
  exact⟨(Array.getElem?_eq_some_iff.1 h1).1,(Array.getElem?_eq_some_iff.1 h5).1⟩
 have hR3:=ranges_blk hR2 (hM.keep.block b hlt.1 hb) (hM.keep.block r hlt.2 hr)
 have hself:kl.sameKey kl=true:=WideAt.sameKey_self hkey
 have hblk3:∀j,j<W0.heap.size->j≠b->j≠r->¬InH ρ Hc j->W3.heap[j]? =W0.heap[j]? :=λj h1 h2 h3 h4=>by
  rw[hM.keep.block j (by have:=hg.size;have:=h.size;omega) h4,hg.block j (by have:=h.size;omega) (λe=>h3 (by cases e;rfl))]
  exact h.block j h1 h2 h3 h4
 have hstr:∀z,z≠kl->(left z&&!z.sameKey kl)=left z:=λz hz=>by rw[sameKey_ne hz];simp
 have hkl:(left kl&&!kl.sameKey kl)=false:=by rw[hself];simp
 refine⟨hR3,λhn=>⟨hR3,hM.keep.os.trans (hg.os.trans h.os),hM.keep.tape.trans (hg.tape.trans h.tape),hM.keep.output.trans (hg.output.trans h.output),Nat.le_trans h.size (Nat.le_trans hg.size hM.keep.size),hblk3,hM.heap,hM.tmps,hM.defers,λz hz=>h.sub z (by simp at hz;exact hz.1),λz=>?_,h.same⟩,
  λW4 cnt4 hin hg4 hR4=>⟨hR4,hg4.os.trans (hM.keep.os.trans (hg.os.trans h.os)),hg4.tape.trans (hM.keep.tape.trans (hg.tape.trans h.tape)),hg4.output.trans (hM.keep.output.trans (hg.output.trans h.output)),Nat.le_trans h.size (Nat.le_trans hg.size (Nat.le_trans hM.keep.size hg4.size)),λj h1 h2 h3 h4=>?_,hM.heap.grown hg4 hb,hM.tmps,hM.defers,λz hz=>h.sub z (by simp at hz;exact hz.1),λz=>?_,λz w hz=>?_⟩⟩
 ·rw[h.here z]
  by_cases e:z=kl
  ·subst e
   rw[hkl,hleft]
   simp[hn]
  ·rw[hstr z e]
 ·rw[hg4.block j (by have:=hg.size;have:=h.size;have:=hM.keep.size;omega) (λe=>h2 (by cases e;rfl))]
  exact hblk3 j h1 h2 h3 h4
 ·by_cases e:z=kl
  ·subst e
   rw[has_del_same,hkl]
   simp[hin]
  ·rw[has_del_other e,h.here z,hstr z e,sameKey_ne e]
   simp
 ·have e:z≠kl:=λe=>by rw[e,has_del_same]at hz;cases hz
  rw[has_del_other e]at hz
  rw[atKey_del_other e]
  exact h.same z w hz
theorem allR_fst{f:Value->Value->Lit->Option (Nat×Bool)}{kf:Value->Option Lit}{ks:List Value}:∀{es:List (Lit×DataW Value)}{k km:Nat}{l:List (Lit×Bool)},allR f kf ks es k=some (km,l)->l.map Prod.fst=es.map Prod.fst
 |[],k,km,l,h=>by cases h;rfl
 |(kl,d)::es,k,km,l,h=>by
  simp only[allR]at h
  split at h
  ·split at h
   ·split at h
    ·rename_i hr
     cases h
     simp[allR_fst hr]
    ·cases h
   ·cases h
  ·cases h
theorem once{l:List (Lit×Bool)}(h:(l.map Prod.fst).Pairwise (· ≠ ·)){a:Lit}{b b':Bool}(h1:(a,b)∈l)(h2:(a,b')∈l):b=b':=by
 induction l with
 |nil=>cases h1
 |cons q l ih=>
  obtain⟨a0,b0⟩:=q
  rw[List.map_cons,List.pairwise_cons]at h
  have hin:∀{c:Bool},(a,c)∈l->a0≠a:=λ{c}hc=>h.1 a (List.mem_map.2 ⟨(a,c),hc,rfl⟩)
  rcases List.mem_cons.1 h1 with e1|e1
  ·rcases List.mem_cons.1 h2 with e2|e2
   ·cases e1;cases e2;rfl
   ·cases e1;exact absurd rfl (hin e2)
  ·rcases List.mem_cons.1 h2 with e2|e2
   ·cases e2;exact absurd rfl (hin e1)
   ·exact ih h.2 e1 e2
theorem mapLoop_ok{P:Program}(hP:P=Tryz.prog)(hm:P.follows .mixedOrders=true){p:RP}{z:Fin}{x y:Code}(hsh:Shape x y p)(hz:finR P p.rest=some z){ev:Ev}{k0 nt:Nat}{H0:Hp}(hev:EvOk P ev){s:St}{e:Exit}{s':St}(h:(mapLoop P p z).f ev k0 H0 nt s=some (e,s')):CodeOk P k0 H0 nt false s (.seq x y) e s':=by
 obtain⟨h8,hrg,h9,hnx,hex,h10,hen,ha8,ha10⟩:=hsh
 rename_i i8 i9 i10 id B o8 o9 o10 rg nx ex en
 simp only[mapLoop]at h
 split at h
 ·rename_i s1 hs1
  split at h
  ·rename_i n hmv
   split at h
   ·rename_i kt D c ks hn
    split at h
    ·rename_i kt' ety es hmt hes
     cases hcc:(Nat.beq kt kt'&&slotsOk p nt)with
     |false=>rw[hcc]at h;cases h
     |true=>
      rw[hcc,cond_true]at h
      rw[Bool.and_eq_true]at hcc
      have hkt:=Nat.eq_of_beq_eq_true hcc.1
      subst hkt
      split at h
      ·rename_i km l hall
       cases h
       obtain⟨hkm,hents,hback⟩:=allR_is hall
       have hD:D=.map es:=by
        unfold entriesD at hes
        split at hes
        ·cases hes;rfl
        ·cases hes
       obtain⟨hund,hkeyed⟩:=mapT_is hmt
       have hslots:=hcc.2
       unfold slotsOk at hslots
       simp only[Bool.and_eq_true,Bool.not_eq_true']at hslots
       obtain⟨sit,stn,stok,ste,sno⟩:=hslots
       have sit:p.it<nt:=Nat.le_of_ble_eq_true sit
       have stn:p.tn<nt:=Nat.le_of_ble_eq_true stn
       have stok:p.tok<nt:=Nat.le_of_ble_eq_true stok
       have ste:p.te<nt:=Nat.le_of_ble_eq_true ste
       obtain⟨d1,d2,d3,d4,d5⟩:=asgR_no sno
       rw[ha8]at hs1
       obtain⟨q1,q2⟩:=seq_okT (nt:=nt) (H0:=H0) (k0:=k0) hev p.pre [rg] [] 0 s s1 (by rw[List.drop_zero];exact h8) hs1
       have hputA:=putD_A k0 [(n,some (.mp kt (delsD l D) c ks))] s1
       have hputH:∀(A:T AV)(k:Nat),({St.putD k0 [(n,some (.mp kt (delsD l D) c ks))] s1 with A:=A,k:=k}:St).hp k0 H0=upH (s1.hp k0 H0) n (some (.mp kt (delsD l D) c ks)):=λA k=>by
        have e1:=hp_putD k0 H0 [(n,some (.mp kt (delsD l D) c ks))] s1
        rw[app_cons,app_nil]at e1
        exact e1
       refine⟨by show s.k<=km;omega,λ{N ρ a W}R n' hR hs hf Q hQ=>?_⟩
       obtain rfl:=hR rfl
       have hf:Free ρ s.k km:=hf
       refine wpIn_seq (wpIn_region ?_)
       have hrange:List.range o8.size=List.range' 0 p.pre.length++[p.pre.length]:=by
        rw[<-Array.length_toList,h8,List.length_append,List.range_eq_range']
        show List.range' 0 (p.pre.length+1)=_
        rw[List.range'_concat]
        simp
       rw[hrange]
       refine q2 none n' hs (hf.sub (Nat.le_refl _) (by omega)) _ [p.pre.length] (λa1 W1 hE=>?_)
       obtain⟨ρ1,g1,g2,g3⟩:=hE.st q1 hf
       clear q2 hs1
       rw[wpOpsIn_cons]
       have hi:o8[p.pre.length]? =some rg:=by
        have:o8.toList[p.pre.length]? =some rg:=by rw[h8];simp
        simpa using this
       have hmr:=evA_rel g1.tmps p.m
       rw[hmv]at hmr
       obtain⟨b,κ,hb1,hb2,hown⟩:=map_at g1.heap hn hmr
       obtain⟨W2,hrun2,hR2,hg2,hsz2⟩:=hown.range hkeyed hund
       rw[<-hP]at hrun2
       refine op_val none n' hi hrg.2.2 (λc hc=>by rw[hrg.1]at hc;cases hc) (sm:=Instr.range p.t (a1.eval p.m)) (by unfold execOp;rw[hrg.1]) (by rw[hb2];exact hrun2) ?_
       rw[hrg.2.1]
       show(Code.block id (.loop (.seq (.region i9 o9 false) (.seq (.cond (.tmp p.tok) .skip (.exit id)) (.block B (.seq (.region i10 o10 false) p.rest)))))).wpIn (Fc none) n' P Q (a1.put (some p.it) (.pointer (some ⟨W1.heap.size,0,none⟩))) W2
       obtain⟨r,hr⟩:∃r,W1.heap.size=r:=⟨_,rfl⟩
       have hk1:ρ1 s1.k=none:=g2 s1.k (Nat.le_refl _) (by omega)
       have hle2:=upR_le (x:=(r,0)) hk1
       obtain⟨ρ2,hρ2⟩:∃ρ2,ρ2=upR ρ1 s1.k (r,0):=⟨_,rfl⟩
       rw[<-hρ2]at hle2
       have hρk:ρ2 s1.k=some (r,0):=by rw[hρ2];exact if_pos rfl
       obtain⟨Hc,hHc⟩:∃Hc,Hc=cutH' (s1.k+1) (hideN n (s1.hp k0 H0)):=⟨_,rfl⟩
       have hcsub:∀m o,Hc m=some o->s1.hp k0 H0 m=some o/\m≠n:=λm o hm=>by
        rw[hHc]at hm
        unfold cutH' at hm
        cases hb:Nat.ble (s1.k+1) m with
        |true=>rw[hb]at hm;cases hm
        |false=>
         rw[hb,cond_false]at hm
         unfold hideN at hm
         cases hb':Nat.beq m n with
         |true=>rw[hb']at hm;cases hm
         |false=>rw[hb']at hm;exact⟨hm,λe=>by rw[T.beq_yes e]at hb';cases hb'⟩
       have hlive1:∀m o,s1.hp k0 H0 m=some o->∃j κ',ρ1 m=some (j,κ')/\ρ2 m=some (j,κ')/\j<r/\N<=j/\RelO ρ1 W1 j κ' o/\(m≠n->j≠b):=λm o hm=>by
        obtain⟨j,κ',h1,h2,h3⟩:=g1.heap.obj m o hm
        refine⟨j,κ',h1,hle2 _ _ h1,by rw[<-hr];exact h3.lt,h2,h3,λhne e=>hne ?_⟩
        subst e
        exact g1.heap.inj m n j κ' κ (by rw[hm];simp) (by rw[hn];simp) h1 hb1
       obtain⟨hbn,hrn⟩:=InH_not (ρ:=ρ2) (Hc:=Hc) (b:=b) (B:=r) (λm o hm=>by
        obtain⟨h1,h2⟩:=hcsub m o hm
        obtain⟨j,κ',_,g4,g5,_,_,g6⟩:=hlive1 m o h1
        exact⟨j,κ',g4,g5,g6 h2⟩)
       have hblt:b<r:=by rw[<-hr];exact hown.lt
       have hA0:∀t,t<nt->asgR p t=true->(loopA p nt s1).get t=some .dead:=λt ht ha=>by
        unfold loopA
        rw[T.get_set,if_neg (λe=>by rw[e,sno]at ha;cases ha),killT_get,if_pos ⟨ht,ha⟩]
       have hT0:RelT ρ2 (loopA p nt s1) nt (a1.put (some p.it) (.pointer (some ⟨r,0,none⟩))).tmps:=by
        refine RelT.set (A:=killT (asgR p) nt s1.A) (tmps:=a1.tmps) ⟨g1.tmps.1,λt=>?_⟩ sit ⟨r,0,hρk,rfl⟩
        rw[killT_get]
        by_cases hc:t<nt/\asgR p t=true
        ·rw[if_pos hc];trivial
        ·rw[if_neg hc];exact(g1.tmps.2 t).mono hle2
       have hI0:LInv N ρ2 Hc (loopA p nt s1) nt s1.df kt b r c D l W2 (a1.put (some p.it) (.pointer (some ⟨r,0,none⟩))) W2 D (has D) (Maps.size D):=by
        refine⟨by rw[<-hr];exact hR2,rfl,rfl,rfl,Nat.le_refl _,λ_ _ _ _ _=>rfl,⟨λm o hm=>?_,λm m' j κ1 κ2 hm hm' e1 e2=>?_,Nat.le_trans g1.heap.size hg2.size⟩,hT0,by rw[put_df];exact g1.defers.mono hle2,λ_ h=>h,λz=>⟨λh=>⟨h,.inl h⟩,λh=>h.1⟩,λ_ _ _=>rfl⟩
        ·obtain⟨h1,_⟩:=hcsub m o hm
         obtain⟨j,κ',_,g4,g5,g6,g7,_⟩:=hlive1 m o h1
         exact⟨j,κ',g4,g6,(g7.blk (hg2.block j (by rw[hr];exact g5) (λe=>by cases e))).mono hle2⟩
        ·have hv:∀m,Hc m≠none->∃o,s1.hp k0 H0 m=some o:=λm hm=>by
          cases ho:Hc m with
          |none=>exact absurd ho hm
          |some o=>exact⟨o,(hcsub m o ho).1⟩
         obtain⟨o1,ho1⟩:=hv m hm
         obtain⟨o2,ho2⟩:=hv m' hm'
         obtain⟨j1,κ1',a1',a2',_⟩:=hlive1 m o1 ho1
         obtain⟨j2,κ2',b1',b2',_⟩:=hlive1 m' o2 ho2
         rw[a2']at e1
         rw[b2']at e2
         cases e1
         cases e2
         exact g1.heap.inj m m' _ _ _ (by rw[ho1];simp) (by rw[ho2];simp) a1' b1'
       have hwlt:W2.heap.size=r+1:=by rw[hsz2,hr]
       rw[hr]
       refine wpIn_block (wpIn_loop (λa W=>∃D' left cnt,LInv N ρ2 Hc (loopA p nt s1) nt s1.df kt b r c D l W2 a W D' left cnt) (λ_ W=>W.rangeLeft b r) ⟨_,_,_,hI0⟩ (λa3 W3 hinv=>?_))
       obtain⟨D',left,cnt,hI⟩:=hinv
       have hcnt:W3.rangeLeft b r=cnt:=hI.rg.left_eq
       have hit:a3.eval (.tmp p.it)=.pointer (some ⟨r,0,none⟩):=by
        have h1:=hI.tmps.2 p.it
        unfold loopA at h1
        rw[T.get_set,if_pos rfl]at h1
        obtain⟨b',κ',e1,e2⟩:=h1
        rw[hρk]at e1
        cases e1
        exact e2
       refine wpIn_seq (wpIn_region ?_)
       have hrange9:List.range o9.size=[0,1]:=by
        rw[<-Array.length_toList,h9];rfl
       have hi0:o9[0]? =some nx:=by
        have:o9.toList[0]? =some nx:=by rw[h9];rfl
        simpa using this
       have hi1:o9[1]? =some ex:=by
        have:o9.toList[1]? =some ex:=by rw[h9];rfl
        simpa using this
       rw[hrange9,wpOpsIn_cons]
       have hnexec:execOp a3.eval nx=(do pure (.value (<-Instr.next (.pointer (some ⟨r,0,none⟩)) false nx.type))):=by unfold execOp;rw[hnx.1,<-hit]
       have hnsz:p.tn<a3.tmps.size:=by rw[hI.tmps.1];exact stn
       have hoksz:p.tok<a3.tmps.size:=by rw[hI.tmps.1];exact stok
       rcases hI.rg.next hkeyed nx.type with⟨hc0,hl0,hrun⟩|⟨key,v,kl,yv,W4,cnt',hkl,hlf,hRv,hat,hrun,hR4,hclt,hg4,hsz4,hent⟩
       ·
        rw[<-hP]at hrun
        refine op_val none n' hi0 hnx.2.2 (λc hc=>by rw[hnx.1]at hc;cases hc) hnexec hrun ?_
        rw[hnx.2.1,wpOpsIn_cons]
        refine op_val none n' hi1 hex.2.2 (λc hc=>by rw[hex.1]at hc;cases hc) (sm:=Instr.extract ((a3.put (some p.tn) (.tuple #[.bool false])).eval (.tmp p.tn)) 0) (v:=.bool false) (W':=W3) (by unfold execOp;rw[hex.1]) (by
         rw[show(a3.put (some p.tn) (.tuple #[.bool false])).eval (.tmp p.tn)=.tuple #[.bool false]from getD_put_eq hnsz]
         rfl) ?_
        rw[hex.2.1]
        show(Code.seq (.cond (.tmp p.tok) .skip (.exit id)) _).wpIn (Fc none) n' P _ _ W3
        refine wpIn_seq (wpIn_cond_false (getD_put_eq (by rw[put_size];exact hoksz)) (wpIn_exit ?_))
        show Exit.inBlock id Q (.exit id) _ W3
        simp only[Exit.inBlock,if_true]
        have hDD:D'=delsD l D:=by
         have hcD:=hown.canon hkeyed
         refine ext (hI.rg.owns.canon hkeyed) (canon_dels l hcD) (λzk=>?_) (λzk w hzk=>?_)
         ·obtain⟨f1,f2⟩:=delsD_is l D zk
          by_cases hin:(zk,true)∈l
          ·rw[f1 hin]
           cases hx:has D' zk with
           |false=>rfl
           |true=>
            have:=(hI.here zk).1 hx
            rw[hl0 zk]at this
            simp[hin]at this
          ·rw[(f2 hin).1]
           cases hx:has D zk with
           |true=>exact(hI.here zk).2 ⟨hx,.inr hin⟩
           |false=>
            cases hx':has D' zk with
            |false=>rfl
            |true=>rw[((hI.here zk).1 hx').1]at hx;cases hx
         ·have h1:=(hI.here zk).1 hzk
          rw[hl0 zk]at h1
          have hnin:(zk,true)∉l:=by simpa using h1.2
          rw[hI.same zk w hzk,((delsD_is l D zk).2 hnin).2 w]
        have hblkW:∀j,j<r->j≠b->¬InH ρ2 Hc j->W3.heap[j]? =W1.heap[j]? :=λj h1 h2 h3=>by
         rw[hI.block j (by omega) h2 (by omega) h3]
         exact hg2.block j (by omega) (λe=>by cases e)
        have hTf:RelT ρ2 (loopA p nt s1) nt ((a3.put (some p.tn) (.tuple #[.bool false])).put (some p.tok) (.bool false)).tmps:=by
         refine⟨by rw[put_size,put_size];exact hI.tmps.1,λt=>?_⟩
         by_cases e1:t=p.tok
         ·rw[hA0 t (by rw[e1];exact stok) (by rw[e1];unfold asgR;rw[T.beq_yes (rfl:p.tok=p.tok)];simp)];trivial
         ·rw[getD_put_ne (λe=>e1 (Option.some.inj e).symm)]
          by_cases e2:t=p.tn
          ·rw[hA0 t (by rw[e2];exact stn) (by rw[e2];unfold asgR;rw[T.beq_yes (rfl:p.tn=p.tn)];simp)];trivial
          ·rw[getD_put_ne (λe=>e2 (Option.some.inj e).symm)]
           exact hI.tmps.2 t
        refine hQ _ _ (g3 {St.putD k0 [(n,some (.mp kt (delsD l D) c ks))] s1 with A:=loopA p nt s1,k:=km} _ _ (by show s1.k<=km;omega) ⟨ρ2,?_,hTf,?_⟩)
        ·rw[hputH]
         refine⟨hle2,λm hmm=>by rw[hρ2];exact if_neg (λe=>hmm ⟨by omega,by show m<km;omega⟩),⟨λm o hmo=>?_,λm m' j κ1 κ2 hm1 hm2 e1 e2=>?_,Nat.le_trans g1.heap.size (Nat.le_trans hg2.size hI.size)⟩,
          ⟨hI.os.trans hg2.os,hI.tape.trans hg2.tape,hI.output.trans hg2.output,Nat.le_trans hg2.size hI.size,λj hj hnj=>hblkW j (by omega) (λe=>hnj ⟨n,κ,by rw[hn];simp,by rw[e];exact hb1⟩) (λ⟨m,κ',hm1,hm2⟩=>hnj ?_)⟩,λj⟨m,κ',hm1,hm2⟩=>?_⟩
         ·by_cases e:m=n
          ·subst e
           rw[upH_same]at hmo
           cases hmo
           obtain⟨j,κ',h1,_,_,h4,_,_⟩:=hlive1 m _ hn
           rw[hb1]at h1
           cases h1
           refine⟨b,κ,hle2 _ _ hb1,h4,?_⟩
           show W3.ownsMap Tryz.prog kt RH b c (delsD l D)
           rw[<-hDD]
           exact hI.rg.owns
          ·rw[upH_ne e]at hmo
           obtain⟨j,κ',h1,h2,h3,h4,h5,h6⟩:=hlive1 m o hmo
           cases hcm:Hc m with
           |some o'=>
            have:=(hcsub m o' hcm).1
            rw[hmo]at this
            cases this
            exact hI.heap.obj m o hcm
           |none=>
            refine⟨j,κ',h2,h4,(h5.blk (hblkW j h3 (h6 e) (λ⟨m2,κ2,hm1,hm2⟩=>?_))).mono hle2⟩
            cases hcm2:Hc m2 with
            |none=>exact hm1 hcm2
            |some o2=>
             have h7:=(hcsub m2 o2 hcm2).1
             obtain⟨j2,κ2',k1',k2',_⟩:=hlive1 m2 o2 h7
             rw[k2']at hm2
             cases hm2
             have:=g1.heap.inj m m2 j κ' κ2 (by rw[hmo];simp) (by rw[h7];simp) h1 k1'
             rw[this,hcm2]at hcm
             cases hcm
         ·have hv:∀m,upH (s1.hp k0 H0) n (some (.mp kt (delsD l D) c ks)) m≠none->∃o,s1.hp k0 H0 m=some o:=λm hm=>by
           by_cases e:m=n
           ·rw[e];exact⟨_,hn⟩
           ·rw[upH_ne e]at hm
            cases ho:s1.hp k0 H0 m with
            |none=>exact absurd ho hm
            |some o=>exact⟨o,rfl⟩
          obtain⟨o1,ho1⟩:=hv m hm1
          obtain⟨o2,ho2⟩:=hv m' hm2
          obtain⟨j1,κ1',a1',a2',_⟩:=hlive1 m o1 ho1
          obtain⟨j2,κ2',b1',b2',_⟩:=hlive1 m' o2 ho2
          rw[a2']at e1
          rw[b2']at e2
          cases e1
          cases e2
          exact g1.heap.inj m m' _ _ _ (by rw[ho1];simp) (by rw[ho2];simp) a1' b1'
         ·cases hcm:Hc m with
          |none=>exact absurd hcm hm1
          |some o=>
           have h7:=(hcsub m o hcm).1
           obtain⟨j2,κ2',k1',k2',_⟩:=hlive1 m o h7
           rw[k2']at hm2
           cases hm2
           exact⟨m,κ',by rw[h7];simp,k1'⟩
         ·left
          have hv:∃o,s1.hp k0 H0 m=some o:=by
           by_cases e:m=n
           ·rw[e];exact⟨_,hn⟩
           ·rw[upH_ne e]at hm1
            cases ho:s1.hp k0 H0 m with
            |none=>exact absurd ho hm1
            |some o=>exact⟨o,rfl⟩
          obtain⟨o,ho⟩:=hv
          obtain⟨j2,κ2',k1',k2',_⟩:=hlive1 m o ho
          rw[k2']at hm2
          cases hm2
          exact⟨m,κ',by rw[ho];simp,k1'⟩
        ·show DfR ρ2 (St.putD k0 [(n,some (.mp kt (delsD l D) c ks))] s1).df _
         rw[hputA.2.2,put_df,put_df]
         exact hI.defers
       ·
        have hkeylit:=hkeyed.key hkl
        have hhas':=(hI.here kl).2 ⟨hI.sub kl hlf,.inl hlf⟩
        cases hRv
        obtain⟨q,hq,hq1,hq2⟩:=entry_of (es:=es) (kl:=kl) (d:=.held v) (λzd=>by rw[<-hD,<-hI.same kl zd hhas'];exact hat zd)
        obtain⟨key',v',k',bb,e1,e2,e3,e4,e5⟩:=hents q hq
        rw[hq1]at e1 e3 e5
        have hkk:=hkeyed.inj e1 hkl
        subst hkk
        rw[hq2]at e2
        cases e2
        have huniq:bb=false->(kl,true)∉l:=λhb hin=>by
         have hpw:(l.map Prod.fst).Pairwise (· ≠ ·):=by
          rw[allR_fst hall]
          obtain⟨es',he',hp',_⟩:=hown.entries hkeyed
          rw[hD]at he'
          cases he'
          exact List.pairwise_map.2 hp'
         have:=once hpw e5 hin
         rw[hb]at this
         cases this
        obtain⟨r1,r2⟩:=round_ok hP hm hev hz e3 ste hA0 h10 ha10 hen
        rw[<-hP]at hrun hent
        refine op_val none n' hi0 hnx.2.2 (λc hc=>by rw[hnx.1]at hc;cases hc) hnexec hrun ?_
        rw[hnx.2.1,wpOpsIn_cons]
        refine op_val none n' hi1 hex.2.2 (λc hc=>by rw[hex.1]at hc;cases hc) (sm:=Instr.extract ((a3.put (some p.tn) (.tuple #[.bool true,key',v])).eval (.tmp p.tn)) 0) (v:=.bool true) (W':=W4) (by unfold execOp;rw[hex.1]) (by
         rw[show(a3.put (some p.tn) (.tuple #[.bool true,key',v])).eval (.tmp p.tn)=.tuple #[.bool true,key',v]from getD_put_eq hnsz]
         rfl) ?_
        rw[hex.2.1]
        show(Code.seq (.cond (.tmp p.tok) .skip (.exit id)) _).wpIn (Fc none) n' P _ _ W4
        refine wpIn_seq (wpIn_cond_true (getD_put_eq (by rw[put_size];exact hoksz)) (wpIn_skip ?_))
        refine wpIn_block ?_
        subst hHc
        have hit5:((a3.put (some p.tn) (.tuple #[.bool true,key',v])).put (some p.tok) (.bool true)).eval (.tmp p.it)=.pointer (some ⟨r,0,none⟩):=by
         show((a3.put (some p.tn) (.tuple #[.bool true,key',v])).put (some p.tok) (.bool true)).tmps.getD p.it undef=_
         rw[getD_put_ne (λe=>d2 (Option.some.inj e).symm),getD_put_ne (λe=>d1 (Option.some.inj e).symm)]
         exact hit
        refine r2 n' (hI.heap.grown hg4 (hrn r (Nat.le_refl _))) ((hI.tmps.set stn (show RelV ρ2 (.lit (.tuple #[.bool true,key',v])) (.tuple #[.bool true,key',v])from rfl)).set stok (show RelV ρ2 (.lit (.bool true)) (.bool true)from rfl)) ⟨_,hI.tmps⟩ (by rw[put_df,put_df];exact hI.defers) (λm h1 h2=>by rw[hρ2];unfold upR;rw[if_neg (by omega)];exact g2 m (by omega) (by omega)) ⟨b,κ,hle2 _ _ hb1⟩ (by rw[hit5];exact hent) _ (λa6 W6 hM=>?_)
        obtain⟨hR6,hno,hyes⟩:=linv_next hI hbn (hrn r (Nat.le_refl _)) hg4 hR4 hM hlf hkeylit
        cases bb with
        |false=>
         simp only[Bool.false_eq_true,if_false]
         have hI6:=hno (huniq rfl)
         refine⟨⟨_,_,_,hI6⟩,?_⟩
         show W6.rangeLeft b r<W3.rangeLeft b r
         rw[hI6.rg.left_eq,hcnt]
         exact hclt
        |true=>
         simp only[if_true]
         intro t2 kt2 ty mb κm key2 hmt2 hn2 hk2
         rw[hle2 _ _ hb1]at hn2
         cases hn2
         obtain⟨W7,cnt7,hrun7,hR7,hle7,hturn⟩:=hR6.drop hkeyed (mapT_is hmt2).1 hk2 ty
         have hI7:=hyes W7 cnt7 e5 hturn.grown hR7
         refine⟨W7,by rw[hP];exact hrun7,⟨_,_,_,hI7⟩,?_⟩
         show W7.rangeLeft b r<W3.rangeLeft b r
         rw[hI7.rg.left_eq,hcnt]
         omega
      ·cases h
    ·cases h
   ·cases h
  ·cases h
 ·cases h
theorem mapHook_ok{P:Program}(hP:P=Tryz.prog)(hm:P.follows .mixedOrders=true):HookOk P (mapHook P):=by
 intro inr x y cc h ev k0 nt H0 hev s e s' hr
 cases inr with
 |true=>cases h
 |false=>
  have h:(match shapeC x y with
   |some p=>match finR P p.rest with
    |some z=>some (mapLoop P p z)
    |none=>none
   |none=>none)=some cc:=h
  split at h
  ·rename_i p hp
   split at h
   ·rename_i z hz
    cases h
    exact mapLoop_ok hP hm (shapeC_is hp) hz hev hr
   ·cases h
  ·cases h
end
end Go.Proofs.YtifehdoghfnhoaaGreatDoor.Ev
namespace Go.Proofs.YtifehdoghfnhoaaGreatDoor.Ev
noncomputable section
open Go.RowKit Go.Shelf Go.Maps
structure Way where
 r:Rs
 A:T AV
 df:List Nat
def roundS(ev:Ev)(cc:CC)(ds:List Dop)(k1:Nat)(Hh:Hp)(nt:Nat)(A:T AV)(df:List Nat)(p:RP)(key v:Value):Option (Nat×Option Way):=
 match evSeq ev k1 Hh nt ds ⟨((A.set p.tn (some (.lit (.tuple #[.bool true,key,v])))).set p.tok (some (.lit (.bool true)))).set p.te (some (.lit (.tuple #[key,v]))),[],.e,k1,df⟩with
 |some s2=>match cc.f ev k1 Hh nt s2 with
  |some (.normal,s3)=>bif nilD' s3.Do&&eqN s3.df df then some (s3.k,none)else none
  |some (.ret,s3)=>match retR k1 Hh s3 .dead with
   |some r=>some (s3.k,some ⟨r,s3.A,s3.df⟩)
   |none=>none
  |_=>none
 |none=>none
def allS(f:Value->Value->Option (Nat×Option Way))(kf:Value->Option Lit)(ks:List Value):List (Lit×DataW Value)->Nat->Option (Nat×Option (Lit×Way))
 |[],k=>some (k,none)
 |(kl,d)::es,k=>match findK kf kl ks,heldV d with
  |some key,some v=>match f key v with
   |some (k',none)=>allS f kf ks es (bif Nat.ble k k' then k' else k)
   |some (k',some w)=>match allS f kf ks es (bif Nat.ble k k' then k' else k)with
    |some (km,none)=>some (km,some (kl,w))
    |_=>none
   |none=>none
  |_,_=>none
def searchLoop(P:Program)(p:RP)(cc:CC):CC:=⟨λev k0 H0 nt s=>match evSeq ev k0 H0 nt (dops P p.all8 p.pre []) s with
 |some s1=>match evA s1.A p.m with
  | .mp n=>match s1.hp k0 H0 n with
    |some (.mp kt D _ ks)=>match mapT p.t,entriesD D with
     |some (kt',_),some es=>bif Nat.beq kt kt'&&slotsOk p nt then
      match allS (roundS ev cc (dops P p.all10 p.ops []) (s1.k+1) (hideN n (s1.hp k0 H0)) nt (loopA p nt s1) s1.df p) (keyOf Tryz.prog kt) ks es (s1.k+1)with
      |some (km,none)=>some (.normal,{s1 with A:=loopA p nt s1,k:=km})
      |some (km,some (_,w))=>some (.ret,{St.putD k0 w.r.d s1 with A:=w.A,k:=km,df:=w.df})
      |none=>none
      else none
     |_,_=>none
    |_=>none
  |_=>none
 |none=>none⟩
def searchHook(P:Program):Hook:=λinr x y=>bif inr then none else match shapeC x y with
 |some p=>some (searchLoop P p (cmp P noHook false p.rest))
 |none=>none
def orHook(h1 h2:Hook):Hook:=λinr x y=>match h1 inr x y with
 |some c=>some c
 |none=>h2 inr x y
theorem orHook_ok{P:Program}{h1 h2:Hook}(g1:HookOk P h1)(g2:HookOk P h2):HookOk P (orHook h1 h2):=λinr x y cc h=>by
 unfold orHook at h
 split at h
 ·rename_i c hc
  cases h
  exact g1 inr x y _ hc
 ·exact g2 inr x y cc h
def WayQ(N:Nat)(ρ:Rho)(k1:Nat)(Hh:Hp)(A:T AV)(nt:Nat)(df:List Nat)(W:World)(km:Nat)(Q:Exit->Act->World->Prop):Option Way->Prop
 |none=>∀a' W',Mid N ρ (cutH' k1 Hh) A nt df W a' W'->Q .normal a' W'
 |some w=>∀a' W' ρ'(s3:St),retR k1 Hh s3 .dead=some w.r->s3.k<=km->k1<=s3.k->Post N ρ (cutH' k1 Hh) W (s3.hp k1 Hh) k1 s3.k ρ' W'->RelT ρ' w.A nt a'.tmps->DfR ρ' w.df a'.defers->Q .ret a' W'
theorem roundS_ok{P:Program}{ev:Ev}(hm:P.follows .mixedOrders=true)(hev:EvOk P ev){p:RP}{k1 nt:Nat}{Hh:Hp}{A:T AV}{df:List Nat}{key v:Value}{km:Nat}{ow:Option Way}
 (h:roundS ev (cmp P noHook false p.rest) (dops P p.all10 p.ops []) k1 Hh nt A df p key v=some (km,ow))(hte:p.te<nt)(hA:∀t,t<nt->asgR p t=true->A.get t=some .dead){i10:Nat}{o10:Array Oper}{en:Oper}(h10:o10.toList=en::p.ops)(ha10:p.all10=o10.toList)(hen:en.op=.entry (.tmp p.it)/\en.dst=some p.te/\en.guard=none):
 k1<=km/\∀{N:Nat}{ρ:Rho}{a:Act}{W:World}(n':Nat),RelH N ρ (cutH' k1 Hh) W->RelT ρ ((A.set p.tn (some (.lit (.tuple #[.bool true,key,v])))).set p.tok (some (.lit (.bool true)))) nt a.tmps->(∃us,RelT ρ A nt us)->DfR ρ df a.defers->Free ρ k1 km->
  (Instr.entry (a.eval (.tmp p.it))).run P W=.ok (.tuple #[key,v]) W->∀Q:Exit->Act->World->Prop,WayQ N ρ k1 Hh A nt df W km Q ow->(Code.seq (.region i10 o10 false) p.rest).wpIn (Fc none) n' P Q a W:=by
 unfold roundS at h
 split at h
 ·rename_i s2 hs2
  rw[ha10]at hs2
  obtain⟨q1,q2⟩:=seq_ok (nt:=nt) hev p.ops [] 1 _ s2 (by rw[h10];rfl) hs2
  have q1:k1<=s2.k:=q1
  have hk2:∀t,asgR p t=false->s2.A.get t=A.get t:=λt ht=>by
   obtain⟨e1,e2,e3,e4,e5⟩:=asgR_no ht
   rw[evSeq_keep _ _ _ _ hs2 e4]
   show((((A.set p.tn _).set p.tok _).set p.te _).get t)=_
   rw[T.get_set,if_neg e3,T.get_set,if_neg e2,T.get_set,if_neg e1]
  have walk:∀(e:Exit)(s3:St),(cmp P noHook false p.rest).f ev k1 Hh nt s2=some (e,s3)->s2.k<=s3.k/\∀{N:Nat}{ρ:Rho}{a:Act}{W:World}(n':Nat),RelH N ρ (cutH' k1 Hh) W->RelT ρ ((A.set p.tn (some (.lit (.tuple #[.bool true,key,v])))).set p.tok (some (.lit (.bool true)))) nt a.tmps->DfR ρ df a.defers->Free ρ k1 s3.k->
   (Instr.entry (a.eval (.tmp p.it))).run P W=.ok (.tuple #[key,v]) W->∀Q:Exit->Act->World->Prop,(∀a' W' ρ',Post N ρ (cutH' k1 Hh) W (s3.hp k1 Hh) k1 s3.k ρ' W'->RelT ρ' s3.A nt a'.tmps->DfR ρ' s3.df a'.defers->Q e a' W')->(Code.seq (.region i10 o10 false) p.rest).wpIn (Fc none) n' P Q a W:=by
   intro e s3 hs3
   obtain⟨f1,f2⟩:=code_ok (noHook_ok P) hev hm _ _ _ _ hs3
   refine⟨f1,λ{N ρ a W}n' hH hT hD hf hent Q hQ=>?_⟩
   refine wpIn_seq (wpIn_region ?_)
   have hrange:List.range o10.size=0::List.range' 1 p.ops.length:=by
    rw[<-Array.length_toList,h10,List.range_eq_range'];rfl
   rw[hrange,wpOpsIn_cons]
   have hi:o10[0]? =some en:=by
    have:o10.toList[0]? =some en:=by rw[h10];rfl
    simpa using this
   refine op_val none n' hi hen.2.2 (λc hc=>by rw[hen.1]at hc;cases hc) (sm:=Instr.entry (a.eval (.tmp p.it))) (by unfold execOp;rw[hen.1]) hent ?_
   rw[hen.2.1]
   have hst:StR N k1 nt Hh ρ ⟨((A.set p.tn (some (.lit (.tuple #[.bool true,key,v])))).set p.tok (some (.lit (.bool true)))).set p.te (some (.lit (.tuple #[key,v]))),[],.e,k1,df⟩ (a.put (some p.te) (.tuple #[key,v])) W:=
    ⟨hH,hT.set hte rfl,hD⟩
   refine q2 none n' hst (hf.sub (Nat.le_refl _) f1) _ (λa1 W1 hE=>?_)
   obtain⟨ρ1,g1,g2,g3⟩:=hE.st q1 hf
   refine f2 none n' (λ_=>rfl) g1 g2 Q (λa2 W2 hE2=>?_)
   obtain⟨ρ2,p1,p2,p3⟩:=g3 _ _ _ f1 hE2
   exact hQ a2 W2 ρ2 p1 p2 p3
  split at h
  ·rename_i s3 hs3
   cases hd:(nilD' s3.Do&&eqN s3.df df)with
   |false=>rw[hd]at h;cases h
   |true=>
    rw[hd,cond_true]at h
    cases h
    rw[Bool.and_eq_true]at hd
    have hdf:=eqN_is hd.2
    obtain⟨f1,f2⟩:=walk _ _ hs3
    have hk3:∀t,asgR p t=false->s3.A.get t=A.get t:=λt ht=>by
     obtain⟨e1,e2,e3,e4,e5⟩:=asgR_no ht
     rw[cmp_keep _ _ _ _ hs3 e5]
     exact hk2 t ht
    refine⟨Nat.le_trans q1 f1,λ{N ρ a W}n' hH hT hb hD hf hent Q hQ=>f2 n' hH hT hD hf hent Q (λa' W' ρ' hp hT' hD'=>hQ a' W' ?_)⟩
    obtain⟨us,hu⟩:=hb
    refine⟨hp.keep,RelH.back hp.le hH (hp.heap.sub (cutH_hp k1 Hh s3 hd.1)),⟨hT'.1,λt=>?_⟩,by rw[hdf]at hD';exact DfR.back hp.le hD hD'⟩
    cases ha:asgR p t with
    |false=>
     have h1:=hT'.2 t
     rw[hk3 t ha]at h1
     exact RelV.back hp.le _ _ _ (hu.2 t) h1
    |true=>
     by_cases ht:t<nt
     ·rw[hA t ht ha];trivial
     ·have h1:a'.tmps.getD t undef=undef:=by rw[Array.getD_eq_getD_getElem?,Array.getElem?_eq_none (by rw[hT'.1];omega)];rfl
      have h2:us.getD t undef=undef:=by rw[Array.getD_eq_getD_getElem?,Array.getElem?_eq_none (by rw[hu.1];omega)];rfl
      rw[h1,<-h2]
      exact hu.2 t
  ·rename_i s3 hs3
   split at h
   ·rename_i r hr
    cases h
    obtain⟨f1,f2⟩:=walk _ _ hs3
    refine⟨Nat.le_trans q1 f1,λ{N ρ a W}n' hH hT _ hD hf hent Q hQ=>f2 n' hH hT hD hf hent Q (λa' W' ρ' hp hT' hD'=>?_)⟩
    exact hQ a' W' ρ' s3 hr (Nat.le_refl _) (Nat.le_trans q1 f1) hp hT' hD'
   ·cases h
  ·cases h
 ·cases h
theorem allS_is{f:Value->Value->Option (Nat×Option Way)}{kf:Value->Option Lit}{ks:List Value}:∀{es:List (Lit×DataW Value)}{k km:Nat}{o:Option (Lit×Way)},allS f kf ks es k=some (km,o)->
 k<=km/\(∀q∈es,∃key v k' w,kf key=some q.1/\q.2=.held v/\f key v=some (k',w)/\k'<=km/\∀x,w=some x->o=some (q.1,x))/\∀kl x,o=some (kl,x)->∃q∈es,q.1=kl/\∃key v k',kf key=some kl/\q.2=.held v/\f key v=some (k',some x)
 |[],k,km,o,h=>by cases h;exact⟨Nat.le_refl _,(λq hq=>by cases hq),(λkl x hx=>by cases hx)⟩
 |(kl,d)::es,k,km,o,h=>by
  have hmx:∀k':Nat,k<=(bif Nat.ble k k' then k' else k)/\k'<=(bif Nat.ble k k' then k' else k):=λk'=>by
   cases hb:Nat.ble k k' with
   |true=>exact⟨Nat.le_of_ble_eq_true hb,Nat.le_refl _⟩
   |false=>
    refine⟨Nat.le_refl _,?_⟩
    apply Classical.byContradiction
    intro hn
    have:Nat.ble k k'=true:=Nat.ble_eq_true_of_le (by
     have hn:¬k'<=k:=hn
     omega)
    rw[hb]at this
    cases this
  simp only[allS]at h
  split at h
  ·rename_i key v hk hv
   have hd:d=.held v:=by
    unfold heldV at hv
    split at hv
    ·cases hv;rfl
    ·cases hv
   split at h
   ·rename_i k' hf
    obtain⟨h1,h2,h3⟩:=allS_is h
    refine⟨Nat.le_trans (hmx k').1 h1,λq hq=>?_,λkl' x hx=>?_⟩
    ·rcases List.mem_cons.1 hq with rfl|hq
     ·exact⟨key,v,k',none,findK_is hk,hd,hf,Nat.le_trans (hmx k').2 h1,λx hx=>by cases hx⟩
     ·exact h2 q hq
    ·obtain⟨q,hq,h4⟩:=h3 kl' x hx
     exact⟨q,List.mem_cons_of_mem _ hq,h4⟩
   ·rename_i k' w hf
    split at h
    ·rename_i km' hr
     cases h
     obtain⟨h1,h2,h3⟩:=allS_is hr
     refine⟨Nat.le_trans (hmx k').1 h1,λq hq=>?_,λkl' x hx=>?_⟩
     ·rcases List.mem_cons.1 hq with rfl|hq
      ·exact⟨key,v,k',some w,findK_is hk,hd,hf,Nat.le_trans (hmx k').2 h1,λx hx=>by cases hx;rfl⟩
      ·obtain⟨key',v',k'',w',g1,g2,g3,g4,g5⟩:=h2 q hq
       exact⟨key',v',k'',w',g1,g2,g3,g4,λx hx=>by cases g5 x hx⟩
     ·cases hx
      exact⟨(kl,d),List.mem_cons_self ..,rfl,key,v,k',findK_is hk,hd,hf⟩
    ·cases h
   ·cases h
  ·cases h
theorem once'{es:List (Lit×DataW Value)}(h:es.Pairwise (λp q=>p.1≠q.1)){p q:Lit×DataW Value}(hp:p∈es)(hq:q∈es)(e:p.1=q.1):p=q:=by
 induction es with
 |nil=>cases hp
 |cons x es ih=>
  rw[List.pairwise_cons]at h
  rcases List.mem_cons.1 hp with rfl|hp
  ·rcases List.mem_cons.1 hq with rfl|hq
   ·rfl
   ·exact absurd e (h.1 q hq)
  ·rcases List.mem_cons.1 hq with h2|hq
   ·rw[h2]at e;exact absurd e.symm (h.1 p hp)
   ·exact ih h.2 hp hq
theorem searchLoop_ok{P:Program}(hP:P=Tryz.prog)(hm:P.follows .mixedOrders=true){p:RP}{x y:Code}(hsh:Shape x y p){ev:Ev}{k0 nt:Nat}{H0:Hp}(hev:EvOk P ev){s:St}{e:Exit}{s':St}(h:(searchLoop P p (cmp P noHook false p.rest)).f ev k0 H0 nt s=some (e,s')):CodeOk P k0 H0 nt false s (.seq x y) e s':=by
 obtain⟨h8,hrg,h9,hnx,hex,h10,hen,ha8,ha10⟩:=hsh
 rename_i i8 i9 i10 id B o8 o9 o10 rg nx ex en
 simp only[searchLoop]at h
 split at h
 ·rename_i s1 hs1
  split at h
  ·rename_i n hmv
   split at h
   ·rename_i kt D c ks hn
    split at h
    ·rename_i kt' ety es hmt hes
     cases hcc:(Nat.beq kt kt'&&slotsOk p nt)with
     |false=>rw[hcc]at h;cases h
     |true=>
      rw[hcc,cond_true]at h
      rw[Bool.and_eq_true]at hcc
      have hkt:=Nat.eq_of_beq_eq_true hcc.1
      subst hkt
      cases hall:allS (roundS ev (cmp P noHook false p.rest) (dops P p.all10 p.ops []) (s1.k+1) (hideN n (s1.hp k0 H0)) nt (loopA p nt s1) s1.df p) (keyOf Tryz.prog kt) ks es (s1.k+1)with
      |none=>rw[hall]at h;cases h
      |some zz=>
       obtain⟨km,o⟩:=zz
       rw[hall]at h
       obtain⟨hkm,hents,hway⟩:=allS_is hall
       have hfinN:o=none->e=.normal/\s'={s1 with A:=loopA p nt s1,k:=km}:=λho=>by subst ho;cases h;exact⟨rfl,rfl⟩
       have hfinR:∀kl w,o=some (kl,w)->e=.ret/\s'={St.putD k0 w.r.d s1 with A:=w.A,k:=km,df:=w.df}:=λkl w ho=>by subst ho;cases h;exact⟨rfl,rfl⟩
       have hks:s'.k=km:=by
        cases o with
        |none=>rw[(hfinN rfl).2]
        |some x=>obtain⟨kl,w⟩:=x;rw[(hfinR kl w rfl).2]
       clear h hall
       have hD:D=.map es:=by
        unfold entriesD at hes
        split at hes
        ·cases hes;rfl
        ·cases hes
       obtain⟨hund,hkeyed⟩:=mapT_is hmt
       have hslots:=hcc.2
       unfold slotsOk at hslots
       simp only[Bool.and_eq_true,Bool.not_eq_true']at hslots
       obtain⟨sit,stn,stok,ste,sno⟩:=hslots
       have sit:p.it<nt:=Nat.le_of_ble_eq_true sit
       have stn:p.tn<nt:=Nat.le_of_ble_eq_true stn
       have stok:p.tok<nt:=Nat.le_of_ble_eq_true stok
       have ste:p.te<nt:=Nat.le_of_ble_eq_true ste
       obtain⟨d1,d2,d3,d4,d5⟩:=asgR_no sno
       rw[ha8]at hs1
       obtain⟨q1,q2⟩:=seq_okT (nt:=nt) (H0:=H0) (k0:=k0) hev p.pre [rg] [] 0 s s1 (by rw[List.drop_zero];exact h8) hs1
       refine⟨by rw[hks];omega,λ{N ρ a W}R n' hR hs hf Q hQ=>?_⟩
       rw[hks]at hf
       obtain rfl:=hR rfl
       have hf:Free ρ s.k km:=hf
       refine wpIn_seq (wpIn_region ?_)
       have hrange:List.range o8.size=List.range' 0 p.pre.length++[p.pre.length]:=by
        rw[<-Array.length_toList,h8,List.length_append,List.range_eq_range']
        show List.range' 0 (p.pre.length+1)=_
        rw[List.range'_concat]
        simp
       rw[hrange]
       refine q2 none n' hs (hf.sub (Nat.le_refl _) (by omega)) _ [p.pre.length] (λa1 W1 hE=>?_)
       obtain⟨ρ1,g1,g2,g3⟩:=hE.st q1 hf
       clear q2 hs1
       rw[wpOpsIn_cons]
       have hi:o8[p.pre.length]? =some rg:=by
        have:o8.toList[p.pre.length]? =some rg:=by rw[h8];simp
        simpa using this
       have hmr:=evA_rel g1.tmps p.m
       rw[hmv]at hmr
       obtain⟨b,κ,hb1,hb2,hown⟩:=map_at g1.heap hn hmr
       obtain⟨W2,hrun2,hR2,hg2,hsz2⟩:=hown.range hkeyed hund
       rw[<-hP]at hrun2
       refine op_val none n' hi hrg.2.2 (λc hc=>by rw[hrg.1]at hc;cases hc) (sm:=Instr.range p.t (a1.eval p.m)) (by unfold execOp;rw[hrg.1]) (by rw[hb2];exact hrun2) ?_
       rw[hrg.2.1]
       show(Code.block id (.loop (.seq (.region i9 o9 false) (.seq (.cond (.tmp p.tok) .skip (.exit id)) (.block B (.seq (.region i10 o10 false) p.rest)))))).wpIn (Fc none) n' P Q (a1.put (some p.it) (.pointer (some ⟨W1.heap.size,0,none⟩))) W2
       obtain⟨r,hr⟩:∃r,W1.heap.size=r:=⟨_,rfl⟩
       have hk1:ρ1 s1.k=none:=g2 s1.k (Nat.le_refl _) (by omega)
       have hle2:=upR_le (x:=(r,0)) hk1
       obtain⟨ρ2,hρ2⟩:∃ρ2,ρ2=upR ρ1 s1.k (r,0):=⟨_,rfl⟩
       rw[<-hρ2]at hle2
       have hρk:ρ2 s1.k=some (r,0):=by rw[hρ2];exact if_pos rfl
       obtain⟨Hc,hHc⟩:∃Hc,Hc=cutH' (s1.k+1) (hideN n (s1.hp k0 H0)):=⟨_,rfl⟩
       have hcsub:∀m o,Hc m=some o->s1.hp k0 H0 m=some o/\m≠n:=λm o hm=>by
        rw[hHc]at hm
        unfold cutH' at hm
        cases hb:Nat.ble (s1.k+1) m with
        |true=>rw[hb]at hm;cases hm
        |false=>
         rw[hb,cond_false]at hm
         unfold hideN at hm
         cases hb':Nat.beq m n with
         |true=>rw[hb']at hm;cases hm
         |false=>rw[hb']at hm;exact⟨hm,λe=>by rw[T.beq_yes e]at hb';cases hb'⟩
       have hlive1:∀m o,s1.hp k0 H0 m=some o->∃j κ',ρ1 m=some (j,κ')/\ρ2 m=some (j,κ')/\j<r/\N<=j/\RelO ρ1 W1 j κ' o/\(m≠n->j≠b):=λm o hm=>by
        obtain⟨j,κ',h1,h2,h3⟩:=g1.heap.obj m o hm
        refine⟨j,κ',h1,hle2 _ _ h1,by rw[<-hr];exact h3.lt,h2,h3,λhne e=>hne ?_⟩
        subst e
        exact g1.heap.inj m n j κ' κ (by rw[hm];simp) (by rw[hn];simp) h1 hb1
       obtain⟨hbn,hrn⟩:=InH_not (ρ:=ρ2) (Hc:=Hc) (b:=b) (B:=r) (λm o hm=>by
        obtain⟨h1,h2⟩:=hcsub m o hm
        obtain⟨j,κ',_,g4,g5,_,_,g6⟩:=hlive1 m o h1
        exact⟨j,κ',g4,g5,g6 h2⟩)
       have hblt:b<r:=by rw[<-hr];exact hown.lt
       have hA0:∀t,t<nt->asgR p t=true->(loopA p nt s1).get t=some .dead:=λt ht ha=>by
        unfold loopA
        rw[T.get_set,if_neg (λe=>by rw[e,sno]at ha;cases ha),killT_get,if_pos ⟨ht,ha⟩]
       have hT0:RelT ρ2 (loopA p nt s1) nt (a1.put (some p.it) (.pointer (some ⟨r,0,none⟩))).tmps:=by
        refine RelT.set (A:=killT (asgR p) nt s1.A) (tmps:=a1.tmps) ⟨g1.tmps.1,λt=>?_⟩ sit ⟨r,0,hρk,rfl⟩
        rw[killT_get]
        by_cases hc:t<nt/\asgR p t=true
        ·rw[if_pos hc];trivial
        ·rw[if_neg hc];exact(g1.tmps.2 t).mono hle2
       have hI0:LInv N ρ2 Hc (loopA p nt s1) nt s1.df kt b r c D [] W2 (a1.put (some p.it) (.pointer (some ⟨r,0,none⟩))) W2 D (has D) (Maps.size D):=by
        refine⟨by rw[<-hr];exact hR2,rfl,rfl,rfl,Nat.le_refl _,λ_ _ _ _ _=>rfl,⟨λm o hm=>?_,λm m' j κ1 κ2 hm hm' e1 e2=>?_,Nat.le_trans g1.heap.size hg2.size⟩,hT0,by rw[put_df];exact g1.defers.mono hle2,λ_ h=>h,λz=>⟨λh=>⟨h,.inl h⟩,λh=>h.1⟩,λ_ _ _=>rfl⟩
        ·obtain⟨h1,_⟩:=hcsub m o hm
         obtain⟨j,κ',_,g4,g5,g6,g7,_⟩:=hlive1 m o h1
         exact⟨j,κ',g4,g6,(g7.blk (hg2.block j (by rw[hr];exact g5) (λe=>by cases e))).mono hle2⟩
        ·have hv:∀m,Hc m≠none->∃o,s1.hp k0 H0 m=some o:=λm hm=>by
          cases ho:Hc m with
          |none=>exact absurd ho hm
          |some o=>exact⟨o,(hcsub m o ho).1⟩
         obtain⟨o1,ho1⟩:=hv m hm
         obtain⟨o2,ho2⟩:=hv m' hm'
         obtain⟨j1,κ1',a1',a2',_⟩:=hlive1 m o1 ho1
         obtain⟨j2,κ2',b1',b2',_⟩:=hlive1 m' o2 ho2
         rw[a2']at e1
         rw[b2']at e2
         cases e1
         cases e2
         exact g1.heap.inj m m' _ _ _ (by rw[ho1];simp) (by rw[ho2];simp) a1' b1'
       have hwlt:W2.heap.size=r+1:=by rw[hsz2,hr]
       rw[hr]
       have hPost:∀W3:World,W3.ownsMap Tryz.prog kt RH b c D->RelH N ρ2 Hc W3->W3.os=W1.os->W3.tape=W1.tape->W3.output=W1.output->W1.heap.size<=W3.heap.size->(∀j,j<r->j≠b->¬InH ρ2 Hc j->W3.heap[j]? =W1.heap[j]?)->Post N ρ1 (s1.hp k0 H0) W1 (s1.hp k0 H0) s1.k (s1.k+1) ρ2 W3:=by
        intro W3 hown3 hheap3 hos3 htape3 hout3 hsz3 hblkW
        have hup:upH (s1.hp k0 H0) n (some (.mp kt D c ks))=s1.hp k0 H0:=by
         funext m
         by_cases e:m=n
         ·rw[e,upH_same,hn]
         ·rw[upH_ne e]
        suffices hsf:Post N ρ1 (s1.hp k0 H0) W1 (upH (s1.hp k0 H0) n (some (.mp kt D c ks))) s1.k (s1.k+1) ρ2 W3 by rwa[hup]at hsf
        refine⟨hle2,λm hmm=>by rw[hρ2];exact if_neg (λe=>hmm ⟨by omega,by omega⟩),⟨λm o hmo=>?_,λm m' j κ1 κ2 hm1 hm2 e1 e2=>?_,Nat.le_trans g1.heap.size hsz3⟩,
         ⟨hos3,htape3,hout3,hsz3,λj hj hnj=>hblkW j (by omega) (λe=>hnj ⟨n,κ,by rw[hn];simp,by rw[e];exact hb1⟩) (λ⟨m,κ',hm1,hm2⟩=>hnj ?_)⟩,λj⟨m,κ',hm1,hm2⟩=>?_⟩
        ·by_cases e:m=n
         ·subst e
          rw[upH_same]at hmo
          cases hmo
          obtain⟨j,κ',h1,_,_,h4,_,_⟩:=hlive1 m _ hn
          rw[hb1]at h1
          cases h1
          refine⟨b,κ,hle2 _ _ hb1,h4,?_⟩
          exact hown3
         ·rw[upH_ne e]at hmo
          obtain⟨j,κ',h1,h2,h3,h4,h5,h6⟩:=hlive1 m o hmo
          cases hcm:Hc m with
          |some o'=>
           have:=(hcsub m o' hcm).1
           rw[hmo]at this
           cases this
           exact hheap3.obj m o hcm
          |none=>
           refine⟨j,κ',h2,h4,(h5.blk (hblkW j h3 (h6 e) (λ⟨m2,κ2,hm1,hm2⟩=>?_))).mono hle2⟩
           cases hcm2:Hc m2 with
           |none=>exact hm1 hcm2
           |some o2=>
            have h7:=(hcsub m2 o2 hcm2).1
            obtain⟨j2,κ2',k1',k2',_⟩:=hlive1 m2 o2 h7
            rw[k2']at hm2
            cases hm2
            have:=g1.heap.inj m m2 j κ' κ2 (by rw[hmo];simp) (by rw[h7];simp) h1 k1'
            rw[this,hcm2]at hcm
            cases hcm
        ·have hv:∀m,upH (s1.hp k0 H0) n (some (.mp kt D c ks)) m≠none->∃o,s1.hp k0 H0 m=some o:=λm hm=>by
          by_cases e:m=n
          ·rw[e];exact⟨_,hn⟩
          ·rw[upH_ne e]at hm
           cases ho:s1.hp k0 H0 m with
           |none=>exact absurd ho hm
           |some o=>exact⟨o,rfl⟩
         obtain⟨o1,ho1⟩:=hv m hm1
         obtain⟨o2,ho2⟩:=hv m' hm2
         obtain⟨j1,κ1',a1',a2',_⟩:=hlive1 m o1 ho1
         obtain⟨j2,κ2',b1',b2',_⟩:=hlive1 m' o2 ho2
         rw[a2']at e1
         rw[b2']at e2
         cases e1
         cases e2
         exact g1.heap.inj m m' _ _ _ (by rw[ho1];simp) (by rw[ho2];simp) a1' b1'
        ·cases hcm:Hc m with
         |none=>exact absurd hcm hm1
         |some o=>
          have h7:=(hcsub m o hcm).1
          obtain⟨j2,κ2',k1',k2',_⟩:=hlive1 m o h7
          rw[k2']at hm2
          cases hm2
          exact⟨m,κ',by rw[h7];simp,k1'⟩
        ·left
         have hv:∃o,s1.hp k0 H0 m=some o:=by
          by_cases e:m=n
          ·rw[e];exact⟨_,hn⟩
          ·rw[upH_ne e]at hm1
           cases ho:s1.hp k0 H0 m with
           |none=>exact absurd ho hm1
           |some o=>exact⟨o,rfl⟩
         obtain⟨o,ho⟩:=hv
         obtain⟨j2,κ2',k1',k2',_⟩:=hlive1 m o ho
         rw[k2']at hm2
         cases hm2
         exact⟨m,κ',by rw[ho];simp,k1'⟩
       refine wpIn_block (wpIn_loop (λa W=>∃D' left cnt,LInv N ρ2 Hc (loopA p nt s1) nt s1.df kt b r c D [] W2 a W D' left cnt/\∀kl w,o=some (kl,w)->left kl=true) (λ_ W=>W.rangeLeft b r) ⟨_,_,_,hI0,λkl w ho=>?_⟩ (λa3 W3 hinv=>?_))
       ·obtain⟨q,hq,hq1,_⟩:=hway kl w ho
        obtain⟨es',he',_,hkl⟩:=hown.entries hkeyed
        rw[hD]at he'
        cases he'
        rw[hD,has_eq,List.any_eq_true]
        exact⟨q,hq,by rw[<-hq1];exact WideAt.sameKey_self (hkl q hq)⟩
       obtain⟨D',left,cnt,hI,hleft⟩:=hinv
       have hDD:D'=D:=by
        refine ext (hI.rg.owns.canon hkeyed) (hown.canon hkeyed) (λzk=>?_) (λzk w hzk=>hI.same zk w hzk)
        cases hx:has D zk with
        |true=>exact(hI.here zk).2 ⟨hx,.inr (by simp)⟩
        |false=>
         cases hx':has D' zk with
         |false=>rfl
         |true=>rw[((hI.here zk).1 hx').1]at hx;cases hx
       subst hDD
       have hcnt:W3.rangeLeft b r=cnt:=hI.rg.left_eq
       have hit:a3.eval (.tmp p.it)=.pointer (some ⟨r,0,none⟩):=by
        have h1:=hI.tmps.2 p.it
        unfold loopA at h1
        rw[T.get_set,if_pos rfl]at h1
        obtain⟨b',κ',e1,e2⟩:=h1
        rw[hρk]at e1
        cases e1
        exact e2
       refine wpIn_seq (wpIn_region ?_)
       have hrange9:List.range o9.size=[0,1]:=by
        rw[<-Array.length_toList,h9];rfl
       have hi0:o9[0]? =some nx:=by
        have:o9.toList[0]? =some nx:=by rw[h9];rfl
        simpa using this
       have hi1:o9[1]? =some ex:=by
        have:o9.toList[1]? =some ex:=by rw[h9];rfl
        simpa using this
       rw[hrange9,wpOpsIn_cons]
       have hnexec:execOp a3.eval nx=(do pure (.value (<-Instr.next (.pointer (some ⟨r,0,none⟩)) false nx.type))):=by unfold execOp;rw[hnx.1,<-hit]
       have hnsz:p.tn<a3.tmps.size:=by rw[hI.tmps.1];exact stn
       have hoksz:p.tok<a3.tmps.size:=by rw[hI.tmps.1];exact stok
       have hblkW:∀j,j<r->j≠b->¬InH ρ2 Hc j->W3.heap[j]? =W1.heap[j]? :=λj h1 h2 h3=>by
        rw[hI.block j (by omega) h2 (by omega) h3]
        exact hg2.block j (by omega) (λe=>by cases e)
       rcases hI.rg.next hkeyed nx.type with⟨hc0,hl0,hrun⟩|⟨key,v,kl,yv,W4,cnt',hkl,hlf,hRv,hat,hrun,hR4,hclt,hg4,hsz4,hent⟩
       ·
        have ho:o=none:=by
         cases ho:o with
         |none=>rfl
         |some q=>
          obtain⟨kl,w⟩:=q
          have:=hleft kl w ho
          rw[hl0 kl]at this
          cases this
        obtain⟨rfl,rfl⟩:=hfinN ho
        rw[<-hP]at hrun
        refine op_val none n' hi0 hnx.2.2 (λc hc=>by rw[hnx.1]at hc;cases hc) hnexec hrun ?_
        rw[hnx.2.1,wpOpsIn_cons]
        refine op_val none n' hi1 hex.2.2 (λc hc=>by rw[hex.1]at hc;cases hc) (sm:=Instr.extract ((a3.put (some p.tn) (.tuple #[.bool false])).eval (.tmp p.tn)) 0) (v:=.bool false) (W':=W3) (by unfold execOp;rw[hex.1]) (by
         rw[show(a3.put (some p.tn) (.tuple #[.bool false])).eval (.tmp p.tn)=.tuple #[.bool false]from getD_put_eq hnsz]
         rfl) ?_
        rw[hex.2.1]
        show(Code.seq (.cond (.tmp p.tok) .skip (.exit id)) _).wpIn (Fc none) n' P _ _ W3
        refine wpIn_seq (wpIn_cond_false (getD_put_eq (by rw[put_size];exact hoksz)) (wpIn_exit ?_))
        show Exit.inBlock id Q (.exit id) _ W3
        simp only[Exit.inBlock,if_true]
        have hTf:RelT ρ2 (loopA p nt s1) nt ((a3.put (some p.tn) (.tuple #[.bool false])).put (some p.tok) (.bool false)).tmps:=by
         refine⟨by rw[put_size,put_size];exact hI.tmps.1,λt=>?_⟩
         by_cases e1:t=p.tok
         ·rw[hA0 t (by rw[e1];exact stok) (by rw[e1];unfold asgR;rw[T.beq_yes (rfl:p.tok=p.tok)];simp)];trivial
         ·rw[getD_put_ne (λe=>e1 (Option.some.inj e).symm)]
          by_cases e2:t=p.tn
          ·rw[hA0 t (by rw[e2];exact stn) (by rw[e2];unfold asgR;rw[T.beq_yes (rfl:p.tn=p.tn)];simp)];trivial
          ·rw[getD_put_ne (λe=>e2 (Option.some.inj e).symm)]
           exact hI.tmps.2 t
        refine hQ _ _ (g3 {s1 with A:=loopA p nt s1,k:=km} _ _ (by show s1.k<=km;omega) ⟨ρ2,?_,hTf,?_⟩)
        ·exact(hPost W3 hI.rg.owns hI.heap (hI.os.trans hg2.os) (hI.tape.trans hg2.tape) (hI.output.trans hg2.output) (Nat.le_trans hg2.size hI.size) hblkW).more (by show s1.k+1<=km;omega)
        ·show DfR ρ2 s1.df _
         rw[put_df,put_df]
         exact hI.defers
       ·
        have hkeylit:=hkeyed.key hkl
        cases hRv
        obtain⟨q,hq,hq1,hq2⟩:=entry_of (es:=es) (kl:=kl) (d:=.held v) (λzd=>by rw[<-hD];exact hat zd)
        obtain⟨key',v',k',ow,e1,e2,e3,e4,e5⟩:=hents q hq
        rw[hq1]at e1 e5
        have hkk:=hkeyed.inj e1 hkl
        subst hkk
        rw[hq2]at e2
        cases e2
        obtain⟨r1,r2⟩:=roundS_ok hm hev e3 ste hA0 h10 ha10 hen
        rw[<-hP]at hrun hent
        refine op_val none n' hi0 hnx.2.2 (λc hc=>by rw[hnx.1]at hc;cases hc) hnexec hrun ?_
        rw[hnx.2.1,wpOpsIn_cons]
        refine op_val none n' hi1 hex.2.2 (λc hc=>by rw[hex.1]at hc;cases hc) (sm:=Instr.extract ((a3.put (some p.tn) (.tuple #[.bool true,key',v])).eval (.tmp p.tn)) 0) (v:=.bool true) (W':=W4) (by unfold execOp;rw[hex.1]) (by
         rw[show(a3.put (some p.tn) (.tuple #[.bool true,key',v])).eval (.tmp p.tn)=.tuple #[.bool true,key',v]from getD_put_eq hnsz]
         rfl) ?_
        rw[hex.2.1]
        show(Code.seq (.cond (.tmp p.tok) .skip (.exit id)) _).wpIn (Fc none) n' P _ _ W4
        refine wpIn_seq (wpIn_cond_true (getD_put_eq (by rw[put_size];exact hoksz)) (wpIn_skip ?_))
        refine wpIn_block ?_
        subst hHc
        have hit5:((a3.put (some p.tn) (.tuple #[.bool true,key',v])).put (some p.tok) (.bool true)).eval (.tmp p.it)=.pointer (some ⟨r,0,none⟩):=by
         show((a3.put (some p.tn) (.tuple #[.bool true,key',v])).put (some p.tok) (.bool true)).tmps.getD p.it undef=_
         rw[getD_put_ne (λe=>d2 (Option.some.inj e).symm),getD_put_ne (λe=>d1 (Option.some.inj e).symm)]
         exact hit
        have hheap4:=hI.heap.grown hg4 (hrn r (Nat.le_refl _))
        have hf2:Free ρ2 (s1.k+1) km:=λm h1 h2=>by rw[hρ2];unfold upR;rw[if_neg (by omega)];exact g2 m (by omega) (by omega)
        refine r2 n' hheap4 ((hI.tmps.set stn (show RelV ρ2 (.lit (.tuple #[.bool true,key',v])) (.tuple #[.bool true,key',v])from rfl)).set stok (show RelV ρ2 (.lit (.bool true)) (.bool true)from rfl)) ⟨_,hI.tmps⟩ (by rw[put_df,put_df];exact hI.defers) (hf2.sub (Nat.le_refl _) e4) (by rw[hit5];exact hent) _ ?_
        cases ow with
        |none=>
         intro a6 W6 hM
         obtain⟨hR6,hno,_⟩:=linv_next hI hbn (hrn r (Nat.le_refl _)) hg4 hR4 hM hlf hkeylit
         have hI6:=hno (by simp)
         refine⟨⟨_,_,_,hI6,λkl0 w0 ho=>?_⟩,?_⟩
         ·have h1:=hleft kl0 w0 ho
          have hne:kl0≠kl:=λe0=>by
           obtain⟨q0,hq0,hq01,key0,v0,k0',f1,f2,f3⟩:=hway kl0 w0 ho
           obtain⟨es',he',hpw,_⟩:=hown.entries hkeyed
           rw[hD]at he'
           cases he'
           have:=once' hpw hq hq0 (by rw[hq1,hq01,e0])
           subst this
           rw[hq2]at f2
           cases f2
           rw[e0]at f1
           have:=hkeyed.inj f1 hkl
           subst this
           rw[e3]at f3
           cases f3
          show(left kl0&&!kl0.sameKey kl)=true
          rw[h1,sameKey_ne hne]
          rfl
         ·show W6.rangeLeft b r<W3.rangeLeft b r
          rw[hI6.rg.left_eq,hcnt]
          exact hclt
        |some w=>
         intro a6 W6 ρ3 s3 hr3 hk3 hk3' hp3 hT3 hD3
         obtain⟨rfl,rfl⟩:=hfinR kl w (e5 w rfl)
         show Exit.inBlock id Q .ret a6 W6
         have hp4:=hPost W4 hR4.owns hheap4 (hg4.os.trans (hI.os.trans hg2.os)) (hg4.tape.trans (hI.tape.trans hg2.tape)) (hg4.output.trans (hI.output.trans hg2.output)) (Nat.le_trans hg2.size (Nat.le_trans hI.size hg4.size)) (λj h1 h2 h3=>by
          rw[hg4.block j (by have:=hI.size;omega) (λe=>by cases e;omega)]
          exact hblkW j h1 h2 h3)
         have hfr:Free ρ2 (s1.k+1) s3.k:=hf2.sub (Nat.le_refl _) (by omega)
         obtain⟨_,p5⟩:=ret_post hr3 hp3 (hp4.heap.sub (hideN_sub n _)) hfr
         obtain⟨rk,rt⟩:=retR_is hr3
         have p6:=p5.frame (hideN_sub n _) hp4.heap rt (by rw[rk];exact hfr)
         have p7:=(hp4.trans p6 (Nat.le_succ _) (by rw[rk];exact hk3')).more (j:=km) (by rw[rk];omega)
         refine hQ _ _ (g3 {St.putD k0 w.r.d s1 with A:=w.A,k:=km,df:=w.df} _ _ (by show s1.k<=km;omega) ⟨ρ3,?_,hT3,hD3⟩)
         show Post N ρ1 (s1.hp k0 H0) W1 ((St.putD k0 w.r.d s1).hp k0 H0) s1.k km ρ3 W6
         rw[hp_putD]
         exact p7
    ·cases h
   ·cases h
  ·cases h
 ·cases h
theorem searchHook_ok{P:Program}(hP:P=Tryz.prog)(hm:P.follows .mixedOrders=true):HookOk P (searchHook P):=by
 intro inr x y cc h ev k0 nt H0 hev s e s' hr
 cases inr with
 |true=>cases h
 |false=>
  have h:(match shapeC x y with
   |some p=>some (searchLoop P p (cmp P noHook false p.rest))
   |none=>none)=some cc:=h
  split at h
  ·rename_i p hp
   cases h
   exact searchLoop_ok hP hm (shapeC_is hp) hev hr
  ·cases h
end
end Go.Proofs.YtifehdoghfnhoaaGreatDoor.Ev
