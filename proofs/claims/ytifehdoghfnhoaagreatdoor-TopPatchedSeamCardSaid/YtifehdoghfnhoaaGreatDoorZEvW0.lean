/- Closed calls are reckoned by the kernel: the evaluator that is used. -/
import Derived.Test.YtifehdoghfnhoaaGreatDoorZEvR
import Derived.Test.YtifehdoghfnhoaaGreatDoorZEvY
import Derived.KernelRfl
namespace Go.Proofs.YtifehdoghfnhoaaGreatDoor.Ev
noncomputable section
open Go.RowKit Go.Shelf
def eqBs:List UInt8->List UInt8->Bool
 |[],[]=>true
 |a::l,b::m=>Nat.beq a.toNat b.toNat&&eqBs l m
 |_,_=>false
theorem eqBs_is:∀{l m:List UInt8},eqBs l m=true->l=m
 |[],[],_=>rfl
 |[],_::_,h=>by cases h
 |_::_,[],h=>by cases h
 |a::l,b::m,h=>by
  simp only[eqBs,Bool.and_eq_true]at h
  rw[UInt8.toNat_inj.1 (Nat.eq_of_beq_eq_true h.1),eqBs_is h.2]
def eqS:Value->Value->Bool
 | .string a,.string b=>eqBs a.data.toList b.data.toList
 | .int .i64 (.ofNat m),.int .i64 (.ofNat n)=>Nat.beq m n
 | .int .i64 (.negSucc m),.int .i64 (.negSucc n)=>Nat.beq m n
 | .bool true,.bool true=>true
 | .bool false,.bool false=>true
 | .slice none 0 0,.slice none 0 0=>true
 |_,_=>false
theorem eqS_is{a b:Value}(h:eqS a b=true):a=b:=by
 unfold eqS at h
 split at h
 ·rename_i a b
  cases a
  cases b
  exact congrArg (λd=>Value.string ⟨d⟩) (Array.toList_inj.1 (eqBs_is h))
 ·rw[Nat.eq_of_beq_eq_true h]
 ·rw[Nat.eq_of_beq_eq_true h]
 ·rfl
 ·rfl
 ·rfl
 ·cases h
def eqSs:List Value->List Value->Bool
 |[],[]=>true
 |a::l,b::m=>eqS a b&&eqSs l m
 |_,_=>false
theorem eqSs_is:∀{l m:List Value},eqSs l m=true->l=m
 |[],[],_=>rfl
 |[],_::_,h=>by cases h
 |_::_,[],h=>by cases h
 |a::l,b::m,h=>by
  simp only[eqSs,Bool.and_eq_true]at h
  rw[eqS_is h.1,eqSs_is h.2]
def eqW:Value->Value->Bool
 | .agg xs,.agg ys=>eqSs xs.toList ys.toList
 |a,b=>eqS a b
theorem eqW_is{a b:Value}(h:eqW a b=true):a=b:=by
 unfold eqW at h
 split at h
 ·rename_i xs ys;rw[Array.toList_inj.1 (eqSs_is h)]
 ·exact eqS_is h
def eqB:Bool->Bool->Bool
 |true,b=>b
 |false,b=>!b
theorem eqB_is{a b:Bool}(h:eqB a b=true):a=b:=by cases a<;>cases b<;>first|rfl|cases h
def eq1:AV->AV->Bool
 | .lit a,.lit b=>eqW a b
 | .ptr n o,.ptr n' o'=>Nat.beq n n'&&Nat.beq o o'
 | .sl n o l lb es ex,.sl n' o' l' lb' es' ex'=>Nat.beq n n'&&(Nat.beq o o'&&(Nat.beq l l'&&(Nat.beq lb lb'&&(Nat.beq es es'&&eqB ex ex'))))
 |_,_=>false
theorem eq1_is{a b:AV}(h:eq1 a b=true):a=b:=by
 unfold eq1 at h
 split at h
 ·rw[eqW_is h]
 ·rw[Bool.and_eq_true]at h
  rw[Nat.eq_of_beq_eq_true h.1,Nat.eq_of_beq_eq_true h.2]
 ·simp only[Bool.and_eq_true]at h
  obtain⟨h1,h2,h3,h4,h5,h6⟩:=h
  rw[Nat.eq_of_beq_eq_true h1,Nat.eq_of_beq_eq_true h2,Nat.eq_of_beq_eq_true h3,Nat.eq_of_beq_eq_true h4,Nat.eq_of_beq_eq_true h5,eqB_is h6]
 ·cases h
def eq1s:List AV->List AV->Bool
 |[],[]=>true
 |a::l,b::m=>eq1 a b&&eq1s l m
 |_,_=>false
theorem eq1s_is:∀{l m:List AV},eq1s l m=true->l=m
 |[],[],_=>rfl
 |[],_::_,h=>by cases h
 |_::_,[],h=>by cases h
 |a::l,b::m,h=>by
  simp only[eq1s,Bool.and_eq_true]at h
  rw[eq1_is h.1,eq1s_is h.2]
def eqV:AV->AV->Bool
 | .agg l,.agg m=>eq1s l m
 |a,b=>eq1 a b
theorem eqV_is{a b:AV}(h:eqV a b=true):a=b:=by
 unfold eqV at h
 split at h
 ·rw[eq1s_is h]
 ·exact eq1_is h
def eqVs:List AV->List AV->Bool
 |[],[]=>true
 |a::l,b::m=>eqV a b&&eqVs l m
 |_,_=>false
theorem eqVs_is:∀{l m:List AV},eqVs l m=true->l=m
 |[],[],_=>rfl
 |[],_::_,h=>by cases h
 |_::_,[],h=>by cases h
 |a::l,b::m,h=>by
  simp only[eqVs,Bool.and_eq_true]at h
  rw[eqV_is h.1,eqVs_is h.2]
def eqO:AO->AO->Bool
 | .cells cs t,.cells cs' t'=>Nat.beq t t'&&eqVs cs cs'
 |_,_=>false
theorem eqO_is{a b:AO}(h:eqO a b=true):a=b:=by
 unfold eqO at h
 split at h
 ·rw[Bool.and_eq_true]at h
  rw[Nat.eq_of_beq_eq_true h.1,eqVs_is h.2]
 ·cases h
structure PC where
 args:List AV
 objs:List (Nat×AO)
 k:Nat
 r:Rs
def objH:List (Nat×AO)->Hp
 |[],_=>none
 |(m,o)::l,n=>bif Nat.beq m n then some o else objH l n
def chkH(H:Hp):List (Nat×AO)->Bool
 |[]=>true
 |(n,o)::l=>(match H n with
  |some o'=>eqO o' o
  |none=>false)&&chkH H l
theorem chkH_is{H:Hp}:∀{l:List (Nat×AO)},chkH H l=true->Sub (objH l) H
 |[],_,n,o,h=>by cases h
 |(m,o')::l,hc,n,o,h=>by
  simp only[chkH,Bool.and_eq_true]at hc
  have h:(bif Nat.beq m n then some o' else objH l n)=some o:=h
  cases hb:Nat.beq m n with
  |true=>
   rw[hb]at h
   cases h
   have e:=Nat.eq_of_beq_eq_true hb
   subst e
   cases hx:H m with
   |none=>rw[hx]at hc;exact absurd hc.1 (by simp)
   |some o2=>rw[hx]at hc;rw[eqO_is hc.1]
  |false=>
   rw[hb]at h
   exact chkH_is hc.2 n o h
def pcOrc:List PC->List AV->Hp->Nat->Option Rs
 |[],_,_,_=>none
 |p::ps,args,H,k=>bif eqVs args p.args&&(Nat.ble k p.k&&chkH H p.objs)then some p.r else pcOrc ps args H k
def PcOk(P:Program)(f:Nat)(p:PC):Prop:=TgtOk P (.fn f) p.args (objH p.objs) p.k p.r
theorem Post.wide{N:Nat}{ρ ρ':Rho}{H H':Hp}{W W':World}{k K k':Nat}(hp:Post N ρ H W H' K k' ρ' W')(hk:k<=K):Post N ρ H W H' k k' ρ' W':=
 ⟨hp.le,λn hn=>hp.only n (by omega),hp.heap,hp.keep,hp.from_⟩
theorem pcOrc_ok{P:Program}{f:Nat}:∀{ps:List PC},(∀p∈ps,PcOk P f p)->∀args H k r,pcOrc ps args H k=some r->TgtOk P (.fn f) args H k r
 |[],_,args,H,k,r,h=>by cases h
 |p::ps,hps,args,H,k,r,h=>by
  simp only[pcOrc]at h
  cases hc:(eqVs args p.args&&(Nat.ble k p.k&&chkH H p.objs))with
  |false=>rw[hc]at h;exact pcOrc_ok (λq hq=>hps q (List.mem_cons_of_mem _ hq)) args H k r h
  |true=>
   rw[hc]at h
   cases h
   simp only[Bool.and_eq_true]at hc
   obtain⟨h1,h2,h3⟩:=hc
   have h2:=Nat.le_of_ble_eq_true h2
   have hs:=chkH_is h3
   have hok:=hps p (List.mem_cons_self ..)
   rw[eqVs_is h1]
   refine⟨Nat.le_trans h2 hok.le,λn hn=>?_,λ{N ρ W vs}hH hv hf=>?_⟩
   ·rcases hok.touch n hn with h4|h4
    ·exact .inl (hs.live h4)
    ·exact .inr ⟨by omega,h4.2⟩
   ·have hf':Free ρ p.k p.r.k:=hf.sub h2 (Nat.le_refl _)
    obtain⟨g1,g2⟩:=hok.does (hH.sub hs) hv hf'
    refine⟨g1,g2.mono (λe W' he=>?_)⟩
    obtain⟨u,rfl,ho⟩:=he
    obtain⟨ρ',p1,p2⟩:=ho.frame hs hH hok.touch hf'
    exact⟨u,rfl,ρ',p1.wide h2,p2⟩
theorem pc_of{P:Program}{ev:Ev}(hev:EvOk P ev){f:Nat}{p:PC}(h:ev (.fn f) p.args (objH p.objs) p.k=some p.r):PcOk P f p:=hev.2 _ _ _ _ _ h
end
end Go.Proofs.YtifehdoghfnhoaaGreatDoor.Ev
namespace Go.Proofs.YtifehdoghfnhoaaGreatDoor.Ev
open Go.RowKit Go.Shelf
def noOrc:Orc:=λ_=>none
theorem noOrc_ok(P:Program):OrcOk P noOrc:=λf g h=>by cases h
noncomputable def mapsH:Hook:=orHook (mapHook Tryz.prog) (searchHook Tryz.prog)
theorem mapsH_ok:HookOk Tryz.prog mapsH:=orHook_ok (mapHook_ok rfl mixed_ok) (searchHook_ok rfl mixed_ok)
noncomputable def evP:Ev:=evN Tryz.prog mapsH fnT.get noOrc 30
theorem evP_ok:EvOk Tryz.prog evP:=evN_ok mapsH_ok rfl mixed_ok fnT_ok (noOrc_ok _) 30
noncomputable def orcAt(f:Nat)(ps:List PC)(o:Orc):Orc:=λg=>bif Nat.beq g f then some (pcOrc ps)else o g
theorem orcAt_ok{P:Program}{f:Nat}{ps:List PC}{o:Orc}(h:∀p∈ps,PcOk P f p)(ho:OrcOk P o):OrcOk P (orcAt f ps o):=λg x hx=>by
 unfold orcAt at hx
 cases hb:Nat.beq g f with
 |true=>
  rw[hb]at hx
  cases hx
  rw[Nat.eq_of_beq_eq_true hb]
  exact pcOrc_ok h
 |false=>
  rw[hb]at hx
  exact ho g x hx
theorem pcs_nil{P:Program}{f:Nat}:∀p∈([]:List PC),PcOk P f p:=λp hp=>by cases hp
theorem pcC{P:Program}{f:Nat}{p:PC}{l:List PC}(h:PcOk P f p)(h':∀q∈l,PcOk P f q):∀q∈p::l,PcOk P f q:=λq hq=>by
 rcases List.mem_cons.1 hq with rfl|hq
 ·exact h
 ·exact h' q hq
end Go.Proofs.YtifehdoghfnhoaaGreatDoor.Ev
