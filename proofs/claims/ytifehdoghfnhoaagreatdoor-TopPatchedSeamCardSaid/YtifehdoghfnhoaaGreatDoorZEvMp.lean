/- Closed calls are reckoned by the kernel: maps, but for ranges over them. -/
import Derived.Test.YtifehdoghfnhoaaGreatDoorZEvG
import Derived.Lib.UnsafeStr
import Derived.Lib.AppendZeros
import Derived.DeepKeys3
import Derived.KernelRfl
namespace Go.Proofs.YtifehdoghfnhoaaGreatDoor.Ev
noncomputable section
open Go.RowKit Go.Shelf
section
variable{N:Nat}{ρ:Rho}{H:Nat->Option AO}{k:Nat}{P:Program}{o:Oper}{a:Act}{W:World}{A:T AV}
theorem args_rel{c:Call}(ho:o.op=.call c)(hl:Looks ρ A a o):RelL ρ (c.args.toList.map (evA A)) (c.args.toList.map a.eval):=by
 have key:∀l:List Operand,(∀z∈l,z∈o.op.operands)->RelL ρ (l.map (evA A)) (l.map a.eval):=by
  intro l
  induction l with
  |nil=>intro _;rfl
  |cons z zs ih=>intro hz;exact⟨_,_,hl z (hz z (List.mem_cons_self ..)),ih (λu hu=>hz u (List.mem_cons_of_mem _ hu)),rfl⟩
 refine key c.args.toList (λz hz=>?_)
 rw[ho]
 simp only[Op.operands,Call.operands]
 have hz':=Array.mem_toList_iff.1 hz
 cases c.callee<;>simp[hz']
theorem builtin_run{c:Call}{b:Builtin}(ho:o.op=.call c)(hb:c.callee=.builtin b):execOp a.eval o=builtin b c.argTypes o.type (c.args.map λ| .const _=>true|_=>false) (c.args.toList.map a.eval).toArray:=by
 have:c.args.map a.eval=(c.args.toList.map a.eval).toArray:=by rw[<-Array.toList_map]
 unfold execOp
 rw[ho]
 simp only[resolve,hb,<-this]
 rfl
def isSlT(P:Program)(t:TypeId):Bool:=match P.underlying t with
 |some (.slice _)=>true
 |_=>false
theorem isSlT_some{t:TypeId}(h:isSlT P t=true):∃e,P.underlying t=some (.slice e):=by
 unfold isSlT at h
 split at h
 ·rename_i e he;exact⟨e,he⟩
 ·cases h
def pureB(P:Program)(s:Sem Value):Option (AV×HEff):=match pureRun P s with
 |some v=>some (.lit v,.no)
 |none=>none
def lenA(P:Program)(t ty:TypeId):AV->Option (AV×HEff)
 | .sl _ _ l _ _ _=>bif isSlT P t then some (.lit (goInt l),.no)else none
 | .emp _=>bif isSlT P t then some (.lit (goInt 0),.no)else none
 | .lit v=>pureB P (Builtin.len_ #[t] ty #[v])
 |_=>none
theorem lenA_run{t ty:TypeId}{av:AV}{v:Value}(hv:RelV ρ av v){r:AV×HEff}(he:lenA P t ty av=some r):r.2=.no/\∃u,(Builtin.len_ #[t] ty #[v]).run P W=.ok u W/\RelV ρ r.1 u:=by
 cases av with
 |lit x=>
  rw[show v=x from hv]
  simp only[lenA,pureB]at he
  cases hp:pureRun P (Builtin.len_ #[t] ty #[x])with
  |none=>rw[hp]at he;cases he
  |some u=>rw[hp]at he;cases he;exact⟨rfl,u,pureRun_run hp W,rfl⟩
 |sl n p l lb es ex=>
  obtain⟨b,κ,c,_,rfl,_⟩:=hv
  simp only[lenA]at he
  cases hs:isSlT P t with
  |false=>rw[hs]at he;cases he
  |true=>
   rw[hs]at he;cases he
   obtain⟨e,hu⟩:=isSlT_some hs
   exact⟨rfl,goInt l,by simp[Builtin.len_,run_underlying hu],rfl⟩
 |emp n=>
  obtain⟨b,κ,q,c,_,rfl⟩:=hv
  simp only[lenA]at he
  cases hs:isSlT P t with
  |false=>rw[hs]at he;cases he
  |true=>
   rw[hs]at he;cases he
   obtain⟨e,hu⟩:=isSlT_some hs
   exact⟨rfl,goInt 0,by simp[Builtin.len_,run_underlying hu],rfl⟩
 |_=>cases he
def capA(P:Program)(t ty:TypeId):AV->Option (AV×HEff)
 | .sl _ _ _ lb _ true=>bif isSlT P t then some (.lit (goInt lb),.no)else none
 | .lit v=>pureB P (Builtin.cap_ #[t] ty #[v])
 |_=>none
theorem capA_run{t ty:TypeId}{av:AV}{v:Value}(hv:RelV ρ av v){r:AV×HEff}(he:capA P t ty av=some r):r.2=.no/\∃u,(Builtin.cap_ #[t] ty #[v]).run P W=.ok u W/\RelV ρ r.1 u:=by
 cases av with
 |lit x=>
  rw[show v=x from hv]
  simp only[capA,pureB]at he
  cases hp:pureRun P (Builtin.cap_ #[t] ty #[x])with
  |none=>rw[hp]at he;cases he
  |some u=>rw[hp]at he;cases he;exact⟨rfl,u,pureRun_run hp W,rfl⟩
 |sl n p l lb es ex=>
  cases ex with
  |false=>cases he
  |true=>
   obtain⟨b,κ,c,_,rfl,_,h2,_⟩:=hv
   simp at h2
   subst h2
   simp only[capA]at he
   cases hs:isSlT P t with
   |false=>rw[hs]at he;cases he
   |true=>
    rw[hs]at he;cases he
    obtain⟨e,hu⟩:=isSlT_some hs
    exact⟨rfl,goInt c,by simp[Builtin.cap_,run_underlying hu],rfl⟩
 |_=>cases he
def cellsOf(H:Nat->Option AO)(q:Nat)(m:Nat):AV->Option (List AV)
 | .sl n p _ _ _ _=>match H n with
   |some (.cells cs _)=>bif Nat.ble (p+m*q) cs.length then some ((cs.drop p).take (m*q))else none
   |_=>none
 |_=>none
theorem cellsOf_rel(h:RelH N ρ H W){q m:Nat}{av:AV}{news:List AV}(he:cellsOf H q m av=some news){v:Value}(hv:RelV ρ av v):
 ∃b p l c us,v=.slice (some ⟨b,p,none⟩) l c/\RelL ρ news us/\us.length=m*q/\∀j u,us[j]? =some u->W.cell? ⟨b,p+j,none⟩=some u:=by
 cases av with
 |sl n p l lb es ex=>
  obtain⟨b,κ,c,hr,rfl,_⟩:=hv
  simp only[cellsOf]at he
  cases hn:H n with
  |none=>rw[hn]at he;cases he
  |some ob=>
   rw[hn]at he
   cases ob with
   |loop _=>cases he
   |dfr=>cases he
   |mp _ _ _ _=>cases he
   |cells cs tt=>
    simp only at he
    cases hle:Nat.ble (p+m*q) cs.length with
    |false=>rw[hle]at he;cases he
    |true=>
     rw[hle]at he
     cases he
     have hle:=Nat.le_of_ble_eq_true hle
     obtain⟨arr,hb,h1,h2,h3⟩:=obj_at h hn hr
     refine⟨b,p,l,c,((arr.toList.take cs.length).drop p).take (m*q),rfl,(h3.drop p).take _,by simp;omega,λj u hu=>?_⟩
     refine cell_at hb (m:=cs.length) ?_
     rw[List.getElem?_take]at hu
     split at hu
     ·rwa[List.getElem?_drop]at hu
     ·cases hu
 |_=>cases he
theorem splice_rel{cs vs:List AV}{L us:List Value}{f:Nat}(h:RelL ρ cs (L.take cs.length))(hv:RelL ρ vs us)(hf:f+vs.length<=cs.length)(hL:cs.length<=L.length):RelL ρ (spliceA cs f vs) ((L.take f++us++L.drop (f+us.length)).take cs.length):=by
 have hul:=hv.len
 have e1:(L.take f++us++L.drop (f+us.length)).take cs.length=(L.take cs.length).take f++us++(L.take cs.length).drop (f+us.length):=by
  rw[List.append_assoc,List.append_assoc,List.take_append,List.take_append,List.take_take,List.take_take,List.drop_take]
  simp only[List.length_take]
  rw[show min cs.length f=f by omega,show min f cs.length=f by omega,show min f L.length=f by omega,List.take_of_length_le (by omega:us.length<=cs.length-f),show cs.length-f-us.length=cs.length-(f+us.length)by omega]
 rw[e1,hul]
 exact((h.take f).append hv).append (h.drop _)
def copyA(P:Program)(H:Nat->Option AO)(t:TypeId)(x y:AV):Option (AV×HEff):=match x,y with
 | .sl n p l _ _ _,.sl n2 p2 l2 lb2 es2 ex2=>match indexSl P t with
   |some q=>match cellsOf H q (Nat.min l2 l) (.sl n2 p2 l2 lb2 es2 ex2),H n with
    |some news,some (.cells cs tt)=>bif news.all AV.one&&Nat.ble (p+news.length) cs.length then some (.lit (goInt (Nat.min l2 l)),.wr n (.cells (spliceA cs p news) tt))else none
    |_,_=>none
   |none=>none
 |_,_=>none
theorem copyA_run(h:RelH N ρ H W){t t' ty:TypeId}{x y:AV}{v u:Value}(hx:RelV ρ x v)(hy:RelV ρ y u){r:AV×HEff}(he:copyA P H t x y=some r):∃v' W',(Builtin.copy_ #[t,t'] ty #[v,u]).run P W=.ok v' W'/\Post N ρ H W (r.2.heap H k) k (r.2.next k) ρ W'/\RelV ρ r.1 v':=by
 cases x with
 |sl n p l lb es ex=>
  cases y with
  |sl n2 p2 l2 lb2 es2 ex2=>
   simp only[copyA]at he
   cases hq:indexSl P t with
   |none=>rw[hq]at he;cases he
   |some q=>
    simp only[hq]at he
    cases hc:cellsOf H q (Nat.min l2 l) (.sl n2 p2 l2 lb2 es2 ex2)with
    |none=>rw[hc]at he;cases he
    |some news=>
     cases hn:H n with
     |none=>rw[hc,hn]at he;cases he
     |some ob=>
      cases ob with
      |loop _=>rw[hc,hn]at he;cases he
      |dfr=>rw[hc,hn]at he;cases he
      |mp _ _ _ _=>rw[hc,hn]at he;cases he
      |cells cs tt=>
       simp only[hc,hn]at he
       cases hb:(news.all AV.one&&Nat.ble (p+news.length) cs.length)with
       |false=>rw[hb]at he;cases he
       |true=>
        rw[hb]at he
        cases he
        simp only[Bool.and_eq_true]at hb
        obtain⟨elem,i,hu,hi,rfl⟩:=indexSl_some hq
        obtain⟨b,κ,c,hr,rfl,_⟩:=hx
        obtain⟨b2,q2,c2,c3,us,e1,h1,h2,h3⟩:=cellsOf_rel h hc hy
        obtain⟨b',κ',c',hr',e2,_⟩:=hy
        rw[e2]at e1
        cases e1
        obtain⟨W',h4,h5⟩:=write_run (P:=P) (k:=k) h hn hr h1 hb.1 (Nat.le_of_ble_eq_true hb.2)
        refine⟨goInt (Nat.min l2 l),W',?_,h5,rfl⟩
        have hload:=run_loadCells (P:=P) (W:=W) h3
        rw[h2]at hload
        rw[e2]
        simp[Builtin.copy_,run_underlying hu,Builtin.lenOf,run_sizeOf hi,Builtin.firstCells,hload,h4]
  |_=>cases he
 |_=>cases he
def clearA(P:Program)(H:Nat->Option AO)(t:TypeId)(x:AV):Option (AV×HEff):=match x with
 | .sl n p l _ _ _=>match P.underlying t with
   |some (.slice elem)=>match P.info? elem with
    |some i=>match i.zero,H n with
     |some z,some (.cells cs tt)=>bif (litsN z (l*z.cells.size)).all AV.one&&Nat.ble (p+(litsN z (l*z.cells.size)).length) cs.length&&!Nat.beq l 0 then some (.lit (.tuple #[]),.wr n (.cells (spliceA cs p (litsN z (l*z.cells.size))) tt))else none
     |_,_=>none
    |none=>none
   |_=>none
 |_=>none
theorem clearA_run(h:RelH N ρ H W){t ty:TypeId}{x:AV}{v:Value}(hx:RelV ρ x v){r:AV×HEff}(he:clearA P H t x=some r):∃v' W',(Builtin.clear_ #[t] ty #[v]).run P W=.ok v' W'/\Post N ρ H W (r.2.heap H k) k (r.2.next k) ρ W'/\RelV ρ r.1 v':=by
 cases x with
 |sl n p l lb es ex=>
  simp only[clearA]at he
  cases hu:P.underlying t with
  |none=>simp[hu]at he
  |some d=>
   simp only[hu]at he
   cases d with
   |slice elem=>
    simp only at he
    cases hi:P.info? elem with
    |none=>simp[hi]at he
    |some i=>
     cases hz:i.zero with
     |none=>simp[hi,hz]at he
     |some z=>
      cases hn:H n with
      |none=>simp[hi,hz,hn]at he
      |some ob=>
       cases ob with
       |loop _=>simp[hi,hz,hn]at he
       |dfr=>simp[hi,hz,hn]at he
       |mp _ _ _ _=>simp[hi,hz,hn]at he
       |cells cs tt=>
        simp only[hi,hz,hn]at he
        cases hb:((litsN z (l*z.cells.size)).all AV.one&&Nat.ble (p+(litsN z (l*z.cells.size)).length) cs.length&&!Nat.beq l 0)with
        |false=>rw[hb]at he;cases he
        |true=>
         rw[hb]at he
         cases he
         simp only[Bool.and_eq_true,Bool.not_eq_true']at hb
         obtain⟨⟨b1,b2⟩,b3⟩:=hb
         obtain⟨b,κ,c,hr,rfl,_⟩:=hx
         obtain⟨W',h4,h5⟩:=write_run (P:=P) (k:=k) h hn hr (litsN_rel z (l*z.cells.size)) b1 (Nat.le_of_ble_eq_true b2)
         refine⟨.tuple #[],W',?_,h5,rfl⟩
         cases l with
         |zero=>cases b3
         |succ l=>
          rw[show((Array.range ((l+1)*z.cells.size)).map (z.cells[· % z.cells.size]!)).toList=(Builtin.zeroCells z.cells (l+1)).toList from rfl]at h4
          simp[Builtin.clear_,run_underlying hu,run_zeroValue hi hz,h4]
   |_=>cases he
 |_=>cases he
end
end
end Go.Proofs.YtifehdoghfnhoaaGreatDoor.Ev
namespace Go.Proofs.YtifehdoghfnhoaaGreatDoor.Ev
noncomputable section
open Go.RowKit Go.Shelf
section
variable{N:Nat}{ρ:Rho}{H:Nat->Option AO}{k:Nat}{P:Program}{o:Oper}{a:Act}{W:World}{A:T AV}
def elemOf(P:Program)(t:TypeId):Option (TypeId×TypeInfo×Value):=match P.underlying t with
 |some (.slice e)=>match P.info? e with
  |some i=>match i.zero with
   |some z=>bif Nat.beq z.cells.size i.size&&Nat.blt 0 i.size then some (e,i,z)else none
   |none=>none
  |none=>none
 |_=>none
theorem elemOf_some{t e:TypeId}{i:TypeInfo}{z:Value}(he:elemOf P t=some (e,i,z)):P.underlying t=some (.slice e)/\P.info? e=some i/\i.zero=some z/\z.cells.size=i.size/\0<i.size:=by
 unfold elemOf at he
 cases hu:P.underlying t with
 |none=>simp[hu]at he
 |some d=>
  simp only[hu]at he
  cases d with
  |slice e'=>
   simp only at he
   cases hi:P.info? e' with
   |none=>simp[hi]at he
   |some i'=>
    cases hz:i'.zero with
    |none=>simp[hi,hz]at he
    |some z'=>
     simp only[hi,hz]at he
     cases hb:(Nat.beq z'.cells.size i'.size&&Nat.blt 0 i'.size)with
     |false=>rw[hb]at he;cases he
     |true=>
      rw[hb]at he
      cases he
      simp only[Bool.and_eq_true]at hb
      exact⟨rfl,hi,hz,Nat.eq_of_beq_eq_true hb.1,Nat.le_of_ble_eq_true hb.2⟩
  |_=>cases he
def appTo(H:Nat->Option AO)(k q:Nat)(e:TypeId)(s:AV)(m:Nat)(news:List AV):Option (AV×HEff):=match s with
 | .lit (.slice none 0 0)=>bif Nat.beq m 0 then none else some (.sl k 0 m m q false,.new (.cells news e))
 | .sl n p l lb es ex=>match H n with
   |some (.cells cs tt)=>bif Nat.beq es q&&Nat.beq tt e&&Nat.ble (p+l*q) cs.length then
     (bif Nat.ble (l+m) lb then(bif Nat.beq p 0&&Nat.ble (l*q+news.length) cs.length then some (.sl n 0 (l+m) lb q ex,.wr n (.cells (spliceA cs (l*q) news) e))else none)
     else bif ex then some (.sl k 0 (l+m) (l+m) q false,.new (.cells ((cs.drop p).take (l*q)++news) e))
     else bif Nat.beq p 0 then some (.sl k 0 (l+m) (l+m) q false,.app n (.cells (cs.take (l*q)++news) e))else none)
    else none
   |_=>none
 |_=>none
def lenSl:AV->Nat
 | .sl _ _ l _ _ _=>l
 |_=>0
def appA(P:Program)(H:Nat->Option AO)(k:Nat)(t:TypeId)(s x:AV):Option (AV×HEff):=match elemOf P t with
 |some (e,i,_)=>match cellsOf H i.size (lenSl x) x with
  |some news=>bif news.all AV.one&&Nat.ble (lenSl s+lenSl x) maxLen&&Nat.ble ((lenSl s+lenSl x)*i.bytes) 140737488355328 then appTo H k i.size e s (lenSl x) news else none
  |none=>none
 |none=>none
theorem app_run(h:RelH N ρ H W){t ty:TypeId}{x y:AV}{v u:Value}(hx:RelV ρ x v)(hy:RelV ρ y u){r:AV×HEff}(hk:r.2.next k≠k->ρ k=none)(he:appA P H k t x y=some r):∃v' W' ρ',(Builtin.append_ #[t,t] ty #[v,u]).run P W=.ok v' W'/\Post N ρ H W (r.2.heap H k) k (r.2.next k) ρ' W'/\RelV ρ' r.1 v':=by
 unfold appA at he
 cases hel:elemOf P t with
 |none=>rw[hel]at he;cases he
 |some eiz=>
  obtain⟨e,i,z⟩:=eiz
  obtain⟨hu,hi,hz,hzs,hq⟩:=elemOf_some hel
  simp only[hel]at he
  cases hc:cellsOf H i.size (lenSl y) y with
  |none=>rw[hc]at he;cases he
  |some news=>
   simp only[hc]at he
   cases hb:(news.all AV.one&&Nat.ble (lenSl x+lenSl y) maxLen&&Nat.ble ((lenSl x+lenSl y)*i.bytes) 140737488355328)with
   |false=>rw[hb]at he;cases he
   |true=>
    rw[hb]at he
    simp only[cond_true]at he
    simp only[Bool.and_eq_true]at hb
    obtain⟨⟨hone,h63b⟩,hbyb⟩:=hb
    have h63:=Nat.le_of_ble_eq_true h63b
    have hby:=Nat.le_of_ble_eq_true hbyb
    clear h63b hbyb
    have hsmall:lenSl x+lenSl y<=9223372036854775807:=by simp only[maxLen]at h63;omega
    obtain⟨b2,p2,l2,c2,us,e1,hus,hul,hcell⟩:=cellsOf_rel h hc hy
    have hl2:l2=lenSl y:=by
     cases y with
     |sl n p l lb es ex=>obtain⟨b,κ,c,_,e2,_⟩:=hy;rw[e2]at e1;cases e1;rfl
     |_=>cases hc
    subst hl2
    have hcell':∀j w,us[j]? =some w->W.cell? ((⟨b2,p2,none⟩:Addr).add j)=some w:=λj w hw=>by rw[add_at];exact hcell j w hw
    have hone':=ones_rel hone hus
    rw[e1]
    generalize lenSl y=m at*
    have grown:ρ k=none->∀(cs:List AV)(olds:List Value)(l old:Nat),RelL ρ cs olds->olds.length=l*i.size->l+m<=maxLen->
     Post N ρ H W (upH H k (some (.cells (cs++news) e))) k (k+1) (upR ρ k (W.heap.size,(olds++us).length+(grownCap W (l+m) old e-(l+m))*i.size)) (W.drew.alloc (.cells (olds.toArray++us.toArray++Builtin.zeroCells z.cells (grownCap W (l+m) old e-(l+m))) e))/\
     RelO (upR ρ k (W.heap.size,(olds++us).length+(grownCap W (l+m) old e-(l+m))*i.size)) (W.drew.alloc (.cells (olds.toArray++us.toArray++Builtin.zeroCells z.cells (grownCap W (l+m) old e-(l+m))) e)) W.heap.size ((olds++us).length+(grownCap W (l+m) old e-(l+m))*i.size) (.cells (cs++news) e)/\
     RelV (upR ρ k (W.heap.size,(olds++us).length+(grownCap W (l+m) old e-(l+m))*i.size)) (.sl k 0 (l+m) (l+m) i.size false) (.slice (some ⟨W.heap.size,0,none⟩) (l+m) (grownCap W (l+m) old e)):=by
     intro hk cs olds l old hcs hol h63'
     have hge:=grownCap_ge W (l+m) old e
     have hcm:grownCap W (l+m) old e<=maxLen:=grownCap_le_maxLen W (l+m) old e h63'
     have ho:RelO (upR ρ k (W.heap.size,(olds++us).length+(grownCap W (l+m) old e-(l+m))*i.size)) (W.drew.alloc (.cells (olds.toArray++us.toArray++Builtin.zeroCells z.cells (grownCap W (l+m) old e-(l+m))) e)) W.heap.size ((olds++us).length+(grownCap W (l+m) old e-(l+m))*i.size) (.cells (cs++news) e):=by
      refine⟨_,heap_alloc_new W.drew _,by simp[size_zeroCells,hzs],?_,?_⟩
      ·rw[List.length_append,List.length_append,<-hcs.len,<-hus.len];omega
      ·have e2:(olds.toArray++us.toArray++Builtin.zeroCells z.cells (grownCap W (l+m) old e-(l+m))).toList.take (cs++news).length=olds++us:=by
        simp only[Array.toList_append]
        rw[show(cs++news).length=(olds++us).length by rw[List.length_append,List.length_append,hcs.len,hus.len]]
        exact List.take_left
       rw[e2]
       exact(hcs.append hus).mono (upR_le hk)
     refine⟨Post.new h hk ⟨rfl,rfl,rfl,by simp,λb' hb'=>heap_alloc_old W.drew _ hb'⟩ (Nat.le_refl _) ho,ho,W.heap.size,_,_,if_pos rfl,rfl,Nat.le_refl _,by simpa using hge,?_,hcm⟩
     rw[List.length_append,hol,hul,<-Nat.add_mul,<-Nat.add_mul]
     rw[Nat.zero_add]
     exact Nat.mul_le_mul_right _ (by omega)
    unfold appTo at he
    split at he
    ·
     rw[show v=_ from hx]
     cases hm0:Nat.beq m 0 with
     |true=>rw[hm0]at he;cases he
     |false=>
      rw[hm0]at he
      cases he
      have hm:m≠0:=λe=>by rw[e]at hm0;cases hm0
      have hr:=run_append_nil (P:=P) W t ty e i z hu hi hz ⟨b2,p2,none⟩ m c2 us hul hcell' (by omega) (by simp only[lenSl]at hsmall;omega) (by simp only[lenSl,Nat.zero_add]at hby;omega)
      obtain⟨g1,_,g3⟩:=grown (hk (Nat.succ_ne_self k)) [] [] 0 0 rfl (by simp) (by simpa[lenSl]using h63)
      simp only[Nat.zero_add,List.nil_append,Array.empty_append]at g1 g3
      exact⟨_,_,_,hr,g1,g3⟩
    ·
     rename_i n p l lb es ex
     simp only[lenSl]at h63 hby hsmall
     obtain⟨b,κ,c,hr,rfl,hlb,hex,hκ,hcm⟩:=hx
     cases hn:H n with
     |none=>rw[hn]at he;cases he
     |some ob=>
      cases ob with
      |loop _=>rw[hn]at he;cases he
      |dfr=>rw[hn]at he;cases he
      |mp _ _ _ _=>rw[hn]at he;cases he
      |cells cs tt=>
       simp only[hn]at he
       cases hb:(Nat.beq es i.size&&Nat.beq tt e&&Nat.ble (p+l*i.size) cs.length)with
       |false=>rw[hb]at he;cases he
       |true=>
        rw[hb]at he
        simp only[cond_true]at he
        simp only[Bool.and_eq_true]at hb
        obtain⟨⟨b1,b2'⟩,b3⟩:=hb
        have b1:=Nat.eq_of_beq_eq_true b1
        have b2':=Nat.eq_of_beq_eq_true b2'
        have b3:=Nat.le_of_ble_eq_true b3
        subst b1;subst b2'
        obtain⟨arr,hbk,hsz,hcs,hrel⟩:=obj_at h hn hr
        have holds:∀j w,(((arr.toList.take cs.length).drop p).take (l*i.size))[j]? =some w->W.cell? ((⟨b,p,none⟩:Addr).add j)=some w:=λj w hw=>by
         rw[add_at]
         refine cell_at hbk (m:=cs.length) ?_
         rw[List.getElem?_take]at hw
         split at hw
         ·rwa[List.getElem?_drop]at hw
         ·cases hw
        have holl:(((arr.toList.take cs.length).drop p).take (l*i.size)).length=l*i.size:=by simp;omega
        have hcb:lb<=c:=by cases ex<;>simp at hex<;>omega
        have inplace:p=0->l+m<=c->l*i.size+us.length<=arr.size->
         (Builtin.append_ #[t,t] ty #[.slice (some ⟨b,p,none⟩) l c,.slice (some ⟨b2,p2,none⟩) m c2]).run P W=.ok (.slice (some ⟨b,0,none⟩) (l+m) c) (W.setRow b (arr.toList.take (l*i.size)++us++arr.toList.drop (l*i.size+us.length)).toArray)/\
         W.grownBy (W.setRow b (arr.toList.take (l*i.size)++us++arr.toList.drop (l*i.size+us.length)).toArray) (some b):=by
         intro hp hroom hfit
         subst hp
         exact⟨run_append_room (P:=P) W t ty tt i hu hi b l c arr hbk ⟨b2,p2,none⟩ m c2 us hul hcell' hone' hroom hfit,⟨rfl,rfl,rfl,by simp,λj _ hj=>setRow_other W b j _ (λe=>hj (by rw[e]))⟩⟩
        cases h1:Nat.ble (l+m) lb with
        |true=>
         rw[h1]at he
         have h1:=Nat.le_of_ble_eq_true h1
         cases h2:(Nat.beq p 0&&Nat.ble (l*i.size+news.length) cs.length)with
         |false=>rw[h2]at he;cases he
         |true=>
          rw[h2]at he
          cases he
          simp only[Bool.and_eq_true]at h2
          have hp:=Nat.eq_of_beq_eq_true h2.1
          have hf:=Nat.le_of_ble_eq_true h2.2
          obtain⟨i1,i2⟩:=inplace hp (by omega) (by rw[hus.len];omega)
          refine⟨_,_,ρ,i1,Post.write h (by rw[hn];simp) hr i2 ⟨_,setRow_heap W b arr _ tt _ hbk,?_,by rw[spliceA_len hf];exact hcs,?_⟩,b,κ,c,hr,rfl,h1,hex,by rw[hp]at hκ;exact hκ,hcm⟩
          ·simp only[List.size_toArray,List.length_append,List.length_take,List.length_drop,Array.length_toList]
           rw[hus.len]
           omega
          ·rw[spliceA_len hf]
           exact splice_rel hrel hus hf (by simp;omega)
        |false=>
         rw[h1]at he
         simp only[cond_false]at he
         have h1:¬l+m<=lb:=λhle=>by rw[Nat.ble_eq_true_of_le hle]at h1;cases h1
         cases ex with
         |true=>
          cases he
          simp at hex
          have hg:=run_append_grow (P:=P) W t ty tt i z hu hi hz ⟨b,p,none⟩ l c _ holl holds ⟨b2,p2,none⟩ m c2 us hul hcell' (by omega) (by omega) (growslice_fits (by omega) hby)
          obtain⟨g1,_,g3⟩:=grown (hk (Nat.succ_ne_self k)) ((cs.drop p).take (l*i.size)) _ l c ((hrel.drop p).take _) holl h63
          exact⟨_,_,_,hg,g1,g3⟩
         |false=>
          simp only[cond_false]at he
          cases h2:Nat.beq p 0 with
          |false=>rw[h2]at he;cases he
          |true=>
           rw[h2]at he
           cases he
           have hp:=Nat.eq_of_beq_eq_true h2
           by_cases hroom:l+m<=c
           ·have hfit:l*i.size+us.length<=arr.size:=by
             rw[hul,hsz,<-Nat.add_mul]
             have:(l+m)*i.size<=c*i.size:=Nat.mul_le_mul_right _ hroom
             omega
            obtain⟨i1,i2⟩:=inplace hp hroom hfit
            refine⟨_,_,_,i1,Post.app (κ':=κ) h (by rw[hn];simp) hr (hk (Nat.succ_ne_self k)) i2 (.inl rfl) ⟨_,setRow_heap W b arr _ tt _ hbk,?_,?_,?_⟩,b,κ,c,if_pos rfl,rfl,Nat.le_refl _,by simpa using hroom,by rw[hp]at hκ;exact hκ,hcm⟩
            ·simp only[List.size_toArray,List.length_append,List.length_take,List.length_drop,Array.length_toList]
             omega
            ·rw[List.length_append,List.length_take,<-hus.len];omega
            ·have e3:((arr.toList.take (l*i.size)++us++arr.toList.drop (l*i.size+us.length)).toArray.toList).take (cs.take (l*i.size)++news).length=(arr.toList.take cs.length).take (l*i.size)++us:=by
              rw[show(cs.take (l*i.size)++news).length=(arr.toList.take (l*i.size)++us).length by
               simp only[List.length_append,List.length_take,Array.length_toList];rw[hus.len];omega]
              rw[List.take_take,show min (l*i.size) cs.length=l*i.size by omega]
              exact List.take_left
             rw[e3]
             exact((hrel.take _).append hus).mono (upR_le (hk (Nat.succ_ne_self k)))
           ·have hg:=run_append_grow (P:=P) W t ty tt i z hu hi hz ⟨b,p,none⟩ l c _ holl holds ⟨b2,p2,none⟩ m c2 us hul hcell' (by omega) (by omega) (growslice_fits (by omega) hby)
            obtain⟨g1,g2,g3⟩:=grown (hk (Nat.succ_ne_self k)) ((cs.drop p).take (l*i.size)) _ l c ((hrel.drop p).take _) holl h63
            rw[show cs.take (l*i.size)=(cs.drop p).take (l*i.size)by rw[hp,List.drop_zero]]
            exact⟨_,_,_,hg,Post.app h (by rw[hn];simp) hr (hk (Nat.succ_ne_self k)) ⟨rfl,rfl,rfl,by simp,λj hj _=>heap_alloc_old W.drew _ hj⟩ (.inr (Nat.le_refl _)) g2,g3⟩
    ·cases he
def appZ(P:Program)(k:Nat)(t t':TypeId)(s x:AV):Option (AV×HEff):=match s,x with
 | .lit (.slice none 0 0),.lit (.int _ (.ofNat n))=>match elemOf P t,P.underlying t' with
   |some (e,i,z),some (.int _)=>bif Nat.ble 1 n&&(Nat.ble n maxLen&&Nat.ble (n*i.bytes) 281474976710656)then some (.sl k 0 n n i.size false,.new (.cells (litsN z (n*i.size)) e))else none
   |_,_=>none
 |_,_=>none
theorem appZ_run(h:RelH N ρ H W){t t' ty:TypeId}{x y:AV}{v u:Value}(hx:RelV ρ x v)(hy:RelV ρ y u){r:AV×HEff}(hk:r.2.next k≠k->ρ k=none)(he:appZ P k t t' x y=some r):∃v' W' ρ',(Builtin.append_ #[t,t'] ty #[v,u]).run P W=.ok v' W'/\Post N ρ H W (r.2.heap H k) k (r.2.next k) ρ' W'/\RelV ρ' r.1 v':=by
 unfold appZ at he
 split at he
 ·rename_i kd n
  split at he
  ·rename_i e i z kt hel htn
   cases hb:(Nat.ble 1 n&&(Nat.ble n maxLen&&Nat.ble (n*i.bytes) 281474976710656))with
   |false=>rw[hb]at he;cases he
   |true=>
    rw[hb]at he
    cases he
    simp only[Bool.and_eq_true]at hb
    obtain⟨b1,b2,b3⟩:=hb
    have b1:1<=n:=Nat.le_of_ble_eq_true b1
    have b2:=Nat.le_of_ble_eq_true b2
    have b3:=Nat.le_of_ble_eq_true b3
    obtain⟨hu,hi,hz,hzs,hq⟩:=elemOf_some hel
    rw[show v=_ from hx,show u=_ from hy]
    have hr:=Lib.run_append_nil_zeros (P:=P) W t t' ty e i z kd kt hu htn hi hz n b1 hq (by simp only[maxLen]at b2;omega) b3
    have hk:=hk (Nat.succ_ne_self k)
    have hge:=grownCap_ge W n 0 e
    have hle:=grownCap_le_maxLen W n 0 e b2
    have hsz:(Builtin.zeroCells z.cells n++Builtin.zeroCells z.cells (grownCap W n 0 e-n)).size=grownCap W n 0 e*i.size:=by
     simp only[Array.size_append,size_zeroCells,hzs,<-Nat.add_mul]
     rw[show n+(grownCap W n 0 e-n)=grownCap W n 0 e by omega]
    have hlits:∀ρ':Rho,RelL ρ' (litsN z (n*i.size)) (Builtin.zeroCells z.cells n).toList:=λρ'=>by
     have:=litsN_rel (ρ:=ρ') z (n*i.size)
     rw[<-hzs]at this ⊢
     exact this
    have ho:RelO (upR ρ k (W.heap.size,grownCap W n 0 e*i.size)) (W.drew.alloc (.cells (Builtin.zeroCells z.cells n++Builtin.zeroCells z.cells (grownCap W n 0 e-n)) e)) W.heap.size (grownCap W n 0 e*i.size) (.cells (litsN z (n*i.size)) e):=by
     have hl:(litsN z (n*i.size)).length=(Builtin.zeroCells z.cells n).toList.length:=(hlits ρ).len.symm
     refine⟨_,heap_alloc_new W.drew _,hsz,?_,?_⟩
     ·rw[hl,Array.length_toList,size_zeroCells,hzs]
      exact Nat.mul_le_mul_right _ hge
     ·rw[hl,Array.toList_append,List.take_left]
      exact hlits _
    refine⟨_,_,_,hr,Post.new h hk ⟨rfl,rfl,rfl,by simp,λb' hb'=>heap_alloc_old W.drew _ hb'⟩ (Nat.le_refl _) ho,W.heap.size,_,_,if_pos rfl,rfl,Nat.le_refl _,by simpa using hge,by omega,hle⟩
  ·cases he
 ·cases he
def noneA:AV->Bool
 | .lit (.slice none 0 _)=>true
 | .emp _=>true
 | .sl _ _ l _ _ _=>Nat.beq l 0
 |_=>false
def rowA:AV->Bool
 | .lit (.slice none 0 _)=>true
 | .emp _=>true
 | .sl _ _ _ _ _ _=>true
 |_=>false
def appE(P:Program)(t:TypeId)(s x:AV):Option (AV×HEff):=bif noneA x&&rowA s then(match P.underlying t with
 |some (.slice e)=>match P.info? e with
  |some _=>some (s,.no)
  |none=>none
 |_=>none)else none
theorem append_none{t e ty:TypeId}{i:TypeInfo}(hu:P.underlying t=some (.slice e))(hi:P.info? e=some i)(b b':Option Addr)(l c c':Nat)(hl:l<=c):(Builtin.append_ #[t,t] ty #[.slice b l c,.slice b' 0 c']).run P W=.ok (.slice b l c) W:=by
 have hf:(Builtin.firstCells i.size 0 (.slice b' 0 c')).run P W=.ok #[] W:=by
  cases b' with
  |none=>rfl
  |some a=>simp[Builtin.firstCells,loadCells,loadCellsFrom]
 cases b with
 |none=>simp[Builtin.append_,run_underlying hu,run_sizeOf hi,Builtin.lenOf,hf,hl]
 |some a=>simp[Builtin.append_,run_underlying hu,run_sizeOf hi,Builtin.lenOf,hf,hl,storeCells]
theorem noneA_is{x:AV}{u:Value}(h:noneA x=true)(hx:RelV ρ x u):∃b c,u=.slice b 0 c:=by
 unfold noneA at h
 split at h
 ·exact⟨_,_,hx⟩
 ·obtain⟨b,κ,o,c,h1,h2⟩:=hx
  exact⟨_,_,h2⟩
 ·obtain⟨b,κ,c,h1,h2,h3⟩:=hx
  rw[Nat.eq_of_beq_eq_true h]at h2
  exact⟨_,_,h2⟩
 ·cases h
theorem rowA_is{x:AV}{u:Value}(h:rowA x=true)(hx:RelV ρ x u):∃b l c,u=.slice b l c/\l<=c:=by
 unfold rowA at h
 split at h
 ·exact⟨_,_,_,hx,Nat.zero_le _⟩
 ·obtain⟨b,κ,o,c,h1,h2⟩:=hx
  exact⟨_,_,_,h2,Nat.zero_le _⟩
 ·rename_i n o l lb es ex
  obtain⟨b,κ,c,h1,h2,h3,h4,h5,h6⟩:=hx
  refine⟨_,_,_,h2,?_⟩
  cases ex with
  |true=>simp at h4;omega
  |false=>simp at h4;omega
 ·cases h
theorem appE_run{t ty:TypeId}{x y:AV}{v u:Value}(hx:RelV ρ x v)(hy:RelV ρ y u){r:AV×HEff}(he:appE P t x y=some r):r=(x,.no)/\(Builtin.append_ #[t,t] ty #[v,u]).run P W=.ok v W:=by
 unfold appE at he
 cases hb:(noneA y&&rowA x)with
 |false=>rw[hb]at he;cases he
 |true=>
  rw[hb,cond_true]at he
  rw[Bool.and_eq_true]at hb
  split at he
  ·rename_i e hu
   split at he
   ·rename_i i hi
    cases he
    obtain⟨b',c',rfl⟩:=noneA_is hb.1 hy
    obtain⟨b,l,c,rfl,hl⟩:=rowA_is hb.2 hx
    exact⟨rfl,append_none hu hi b b' l c c' hl⟩
   ·cases he
  ·cases he
def sdA:AV->Option (AV×HEff)
 | .sl n o l _ _ _=>bif Nat.blt 0 l then some (.ptr n o,.no)else none
 |_=>none
theorem sdA_run{x:AV}{v:Value}(hx:RelV ρ x v){r:AV×HEff}(he:sdA x=some r):r.2=.no/\∃w,(∀ts ty,(Builtin.unsafeSliceData_ ts ty #[v]).run P W=.ok w W)/\RelV ρ r.1 w:=by
 unfold sdA at he
 split at he
 ·rename_i n o l lb es ex
  cases hb:Nat.blt 0 l with
  |false=>rw[hb]at he;cases he
  |true=>
   rw[hb]at he
   cases he
   have h0:0<l:=Nat.le_of_ble_eq_true hb
   obtain⟨b,κ,c,h1,rfl,h2,h3,h4,h5⟩:=hx
   have hc:c≠0:=by
    cases ex with
    |true=>simp at h3;omega
    |false=>simp at h3;omega
   exact⟨rfl,_,λts ty=>Lib.run_unsafeSliceData_row W ts ty _ _ _ hc,b,κ,h1,rfl⟩
 ·cases he
def bytesA:List AV->Option (List UInt8)
 |[]=>some []
 | .lit (.int .u8 (.ofNat x))::l=>bif Nat.blt x 256 then(match bytesA l with|some m=>some (UInt8.ofNat x::m)|none=>none)else none
 |_=>none
theorem bytesA_get{ρ:Rho}:∀{l:List AV}{m:List UInt8}{vs:List Value},bytesA l=some m->RelL ρ l vs->m.length=l.length/\∀(j:Nat)x,m[j]? =some x->vs[j]? =some (.int .u8 x.toNat)
 |[],m,vs,h,hv=>by cases h;simp
 |a::l,m,vs,h,hv=>by
  unfold bytesA at h
  split at h
  ·rename_i e;cases e
  ·rename_i x l' e
   cases e
   cases hb:Nat.blt x 256 with
   |false=>rw[hb]at h;cases h
   |true=>
    rw[hb,cond_true]at h
    have hx:x<256:=Nat.le_of_ble_eq_true hb
    obtain⟨v,vs',h1,h2,rfl⟩:=hv
    split at h
    ·rename_i m' hm
     cases h
     have ih:=bytesA_get hm h2
     refine⟨by simp[ih.1],λj y hy=>?_⟩
     cases j with
     |zero=>
      simp at hy
      subst hy
      rw[show v=_ from h1]
      have:(UInt8.ofNat x).toNat=x:=by simp[UInt8.toNat_ofNat'];omega
      rw[this]
      rfl
     |succ j=>exact ih.2 j y (by simpa using hy)
    ·cases h
  ·cases h
def ptrT(P:Program)(t e:TypeId):Bool:=match P.underlying t with
 |some (.pointer e')=>Nat.beq e e'&&Nat.beq (P.cellsOf e) 1
 |_=>false
def usA(P:Program)(H:Nat->Option AO)(t:TypeId)(x y:AV):Option (AV×HEff):=match x,y with
 | .ptr n 0,.lit (.int .i64 (.ofNat l))=>match H n with
   |some (.cells cs e)=>bif ptrT P t e&&(Nat.blt 0 l&&(Nat.ble l cs.length&&Nat.ble l 9223372036854775807))then(match bytesA (cs.take l)with
    |some bs=>some (.lit (.string ⟨bs.toArray⟩),.hide n)
    |none=>none)else none
   |_=>none
 |_,_=>none
theorem grown_freeze(W:World)(g n:Nat):W.grownBy (W.freeze ⟨g,0,none⟩ n) (some g):=by
 unfold World.freeze
 split
 ·exact⟨rfl,rfl,rfl,Nat.le_refl _,λ_ _ _=>rfl⟩
 ·exact⟨rfl,rfl,rfl,by simp,λk hk h=>by
   simp only[Array.getElem?_modify]
   rw[if_neg (λe=>h (by rw[e]))]⟩
theorem usA_run(h:RelH N ρ H W){t:TypeId}{x y:AV}{v u:Value}(hx:RelV ρ x v)(hy:RelV ρ y u){r:AV×HEff}(he:usA P H t x y=some r):∃w W' ρ',(∀t' ty,(Builtin.unsafeString_ #[t,t'] ty #[v,u]).run P W=.ok w W')/\Post N ρ H W (r.2.heap H k) k (r.2.next k) ρ' W'/\RelV ρ' r.1 w:=by
 unfold usA at he
 split at he
 ·rename_i n l
  split at he
  ·rename_i cs e hn
   cases hb:(ptrT P t e&&(Nat.blt 0 l&&(Nat.ble l cs.length&&Nat.ble l 9223372036854775807)))with
   |false=>rw[hb]at he;cases he
   |true=>
    rw[hb,cond_true]at he
    simp only[Bool.and_eq_true]at hb
    obtain⟨hp,h0,hl,h63⟩:=hb
    have h0:0<l:=Nat.le_of_ble_eq_true h0
    have hl:=Nat.le_of_ble_eq_true hl
    have h63:=Nat.le_of_ble_eq_true h63
    split at he
    ·rename_i bs hbs
     cases he
     obtain⟨b,κ,h1,h2,arr,h3,h4,h5,h6⟩:=h.obj n _ hn
     obtain⟨b',κ',h7,rfl⟩:=hx
     rw[h1]at h7
     cases h7
     obtain⟨g1,g2⟩:=bytesA_get hbs (h6.take l)
     have hbl:bs.length=l:=by rw[g1,List.length_take];omega
     have hu:u=.int .i64 bs.length:=by rw[hbl];exact hy
     unfold ptrT at hp
     split at hp
     ·rename_i e' hpe
      rw[Bool.and_eq_true]at hp
      obtain rfl:=Nat.eq_of_beq_eq_true hp.1
      have hc:=Nat.eq_of_beq_eq_true hp.2
      refine⟨.string ⟨bs.toArray⟩,W.freeze ⟨b,0,none⟩ bs.length,ρ,λt' ty=>?_,Post.kill h (by rw[hn];simp) h1 (grown_freeze W b _),rfl⟩
      rw[hu]
      refine Lib.run_unsafeString_row W t t' ty e hpe hc b arr.size (by simp[World.shape?,h3]) bs (λe0=>by rw[e0]at hbl;simp at hbl;omega) (by omega) (by omega) (λj z hz=>?_)
      have hz2:=g2 j z hz
      have hj:j<l:=by rw[<-hbl];exact(List.getElem?_eq_some_iff.1 hz).1
      have ea:(⟨b,0,none⟩:Addr).add j=⟨b,j,none⟩:=by
       unfold Addr.add
       by_cases hj0:j=0<;>simp[hj0]
      rw[ea,Lib.cell_of_heap h3]
      rw[List.getElem?_take_of_lt hj,List.getElem?_take_of_lt (by omega)]at hz2
      simpa using hz2
     ·cases hp
    ·cases he
  ·cases he
 ·cases he
end
end
end Go.Proofs.YtifehdoghfnhoaaGreatDoor.Ev
namespace Go.Proofs.YtifehdoghfnhoaaGreatDoor.Ev
noncomputable section
open Go.RowKit Go.Shelf Go.Maps
theorem keyed_0:Keyed Tryz.prog 201:=Keyed.of_law (deep_law (m:=4) (by omega) (by kernel_rfl) (by kernel_rfl) (by kernel_rfl))
theorem keyed_1:Keyed Tryz.prog 396:=Keyed.of_law (deep_law (m:=4) (by omega) (by kernel_rfl) (by kernel_rfl) (by kernel_rfl))
theorem keyed_2:Keyed Tryz.prog 34:=Keyed.of_law (deep_law (m:=4) (by omega) (by kernel_rfl) (by kernel_rfl) (by kernel_rfl))
theorem keyed_3:Keyed Tryz.prog 156:=Keyed.of_law (deep_law (m:=4) (by omega) (by kernel_rfl) (by kernel_rfl) (by kernel_rfl))
theorem keyed_4:Keyed Tryz.prog 147:=Keyed.of_law (deep_law (m:=4) (by omega) (by kernel_rfl) (by kernel_rfl) (by kernel_rfl))
def keyL:List TypeId:=[201,396,34,156,147]
def keyT(t:TypeId):Bool:=keyL.any (Nat.beq t)
theorem keyL_is:∀t∈keyL,Keyed Tryz.prog t:=List.forall_mem_cons.2 ⟨keyed_0,List.forall_mem_cons.2 ⟨keyed_1,List.forall_mem_cons.2 ⟨keyed_2,List.forall_mem_cons.2 ⟨keyed_3,List.forall_mem_cons.2 ⟨keyed_4,(λt ht=>by cases ht)⟩⟩⟩⟩⟩
theorem keyT_is{t:TypeId}(h:keyT t=true):Keyed Tryz.prog t:=by
 obtain⟨k,hk,e⟩:=List.any_eq_true.1 h
 rw[Nat.eq_of_beq_eq_true e]
 exact keyL_is k hk
def mapT(t:TypeId):Option (TypeId×TypeId):=match(Tryz.prog).underlying t with
 |some (.map k e)=>bif keyT k then some (k,e)else none
 |_=>none
theorem mapT_is{t k e:TypeId}(h:mapT t=some (k,e)):(Tryz.prog).underlying t=some (.map k e)/\Keyed Tryz.prog k:=by
 unfold mapT at h
 split at h
 ·rename_i k' e' hu
  cases hk:keyT k' with
  |false=>rw[hk]at h;cases h
  |true=>rw[hk]at h;cases h;exact⟨hu,keyT_is hk⟩
 ·cases h
def keyA(k:TypeId):AV->Option Lit
 | .lit v=>keyOf Tryz.prog k v
 |_=>none
def keyV:AV->Value
 | .lit v=>v
 |_=>undef
def updA(H:Nat->Option AO)(t:TypeId)(m k x:AV):Option (AV×HEff):=match m with
 | .mp n=>match H n with
   |some (.mp kt D c ks)=>match mapT t with
    |some (kt',_)=>bif Nat.beq kt kt'&&Nat.blt c 1000000 then match keyA kt k with
     |some kl=>match x with
      | .lit v=>some (.lit undef,.wr n (.mp kt (D.put kl (.held v)) (c+1) (keyV k::ks)))
      |_=>none
     |none=>none
     else none
    |none=>none
   |_=>none
 |_=>none
def heldV:DataW Value->Option Value
 | .held v=>some v
 |_=>none
def lookA(H:Nat->Option AO)(t:TypeId)(m k:AV)(ok:Bool):Option (AV×HEff):=match m with
 | .mp n=>match H n with
   |some (.mp kt D _ _)=>match mapT t with
    |some (kt',e)=>bif Nat.beq kt kt' then match keyA kt k with
     |some kl=>match(Tryz.prog).info? e with
      |some i=>match i.zero with
       |some z=>match heldV (D.atKey kl (.held z))with
        |some v=>some (.lit (bif ok then .tuple #[v,.bool (has D kl)]else v),.no)
        |none=>none
       |none=>none
      |none=>none
     |none=>none
     else none
    |none=>none
   |_=>none
 |_=>none
def delA(H:Nat->Option AO)(t:TypeId)(m k:AV):Option (AV×HEff):=match m with
 | .mp n=>match H n with
   |some (.mp kt D c ks)=>match mapT t with
    |some (kt',_)=>bif Nat.beq kt kt' then match keyA kt k with
     |some kl=>some (.lit (.tuple #[]),.wr n (.mp kt (D.del kl) c ks))
     |none=>none
     else none
    |none=>none
   |_=>none
 |_=>none
def mlenA(H:Nat->Option AO)(t:TypeId)(m:AV):Option (AV×HEff):=match m with
 | .mp n=>match H n with
   |some (.mp kt D _ _)=>match mapT t with
    |some (kt',_)=>bif Nat.beq kt kt' then some (.lit (.int .i64 (Maps.size D)),.no)else none
    |none=>none
   |_=>none
 |_=>none
section
variable{N:Nat}{ρ:Rho}{H:Nat->Option AO}{k:Nat}{o:Oper}{a:Act}{W:World}{A:T AV}
theorem map_at(h:RelH N ρ H W){n c:Nat}{kt:TypeId}{D:DataW Value}{ks:List Value}(hn:H n=some (.mp kt D c ks)){v:Value}(hv:RelV ρ (.mp n) v):∃b κ,ρ n=some (b,κ)/\v=.map (some b)/\W.ownsMap Tryz.prog kt RH b c D:=by
 obtain⟨b,κ,h1,h2⟩:=hv
 obtain⟨b',κ',h3,_,h4⟩:=h.obj n _ hn
 rw[h1]at h3
 cases h3
 exact⟨b,κ,h1,h2,h4⟩
theorem keyA_is{kt:TypeId}{x:AV}{kl:Lit}(h:keyA kt x=some kl){v:Value}(hv:RelV ρ x v):keyOf Tryz.prog kt v=some kl:=by
 cases x with
 |lit u=>rw[show v=u from hv];exact h
 |_=>cases h
theorem upd_run(h:RelH N ρ H W){t:TypeId}{m x y:AV}{mv xv yv:Value}(hm:RelV ρ m mv)(hx:RelV ρ x xv)(hy:RelV ρ y yv){r:AV×HEff}(he:updA H t m x y=some r):
 r.1=.lit undef/\∃W',(Instr.mapUpdate t mv xv yv).run Tryz.prog W=.ok () W'/\Post N ρ H W (r.2.heap H k) k (r.2.next k) ρ W':=by
 unfold updA at he
 split at he
 ·rename_i n
  split at he
  ·rename_i kt D c ks hn
   split at he
   ·rename_i kt' e ht
    cases hc:(Nat.beq kt kt'&&Nat.blt c 1000000)with
    |false=>rw[hc]at he;cases he
    |true=>
     rw[hc,cond_true]at he
     rw[Bool.and_eq_true]at hc
     have h1:=Nat.eq_of_beq_eq_true hc.1
     subst h1
     have h2:c<1000000:=Nat.le_of_ble_eq_true hc.2
     split at he
     ·rename_i kl hkl
      split at he
      ·rename_i v
       cases he
       obtain⟨b,κ,g1,rfl,g2⟩:=map_at h hn hm
       obtain⟨t1,t2⟩:=mapT_is ht
       have hyv:yv=v:=hy
       subst hyv
       obtain⟨W',e1,e2,e3⟩:=g2.update t2 t1 (by simp only[maxLen];omega) (keyA_is hkl hx) (show RH yv=some (.held yv,[])from rfl)
       exact⟨rfl,W',e1,Post.write h (by rw[hn];simp) g1 e3 e2⟩
      ·cases he
     ·cases he
   ·cases he
  ·cases he
 ·cases he
theorem look_run(h:RelH N ρ H W){t:TypeId}{m x:AV}{mv xv:Value}(hm:RelV ρ m mv)(hx:RelV ρ x xv){ok:Bool}{r:AV×HEff}(he:lookA H t m x ok=some r):r.2=.no/\∃u,(Instr.lookup t mv xv ok).run Tryz.prog W=.ok u W/\RelV ρ r.1 u:=by
 unfold lookA at he
 split at he
 ·rename_i n
  split at he
  ·rename_i kt D c ks hn
   split at he
   ·rename_i kt' e ht
    cases hc:Nat.beq kt kt' with
    |false=>rw[hc]at he;cases he
    |true=>
     rw[hc,cond_true]at he
     have h1:=Nat.eq_of_beq_eq_true hc
     subst h1
     split at he
     ·rename_i kl hkl
      split at he
      ·rename_i i hi
       split at he
       ·rename_i z hz
        split at he
        ·rename_i v hv
         cases he
         obtain⟨b,κ,g1,rfl,g2⟩:=map_at h hn hm
         obtain⟨t1,t2⟩:=mapT_is ht
         have hzr:=run_zeroValue (P:=Tryz.prog) hi hz W
         have hat:D.atKey kl (.held z)=.held v:=by
          unfold heldV at hv
          split at hv
          ·rename_i w hw;cases hv;exact hw
          ·cases hv
         refine⟨rfl,?_⟩
         cases ok with
         |true=>
          obtain⟨u,ps,e1,e2⟩:=g2.look_ok t2 t1 hzr (show RH z=some (.held z,[])from rfl) (keyA_is hkl hx)
          rw[hat]at e2
          cases e2
          exact⟨_,e1,rfl⟩
         |false=>
          obtain⟨u,ps,e1,e2⟩:=g2.lookup t2 t1 hzr (show RH z=some (.held z,[])from rfl) (keyA_is hkl hx)
          rw[hat]at e2
          cases e2
          exact⟨_,e1,rfl⟩
        ·cases he
       ·cases he
      ·cases he
     ·cases he
   ·cases he
  ·cases he
 ·cases he
theorem del_run(h:RelH N ρ H W){t t' ty:TypeId}(htt:mapT t=some (t',ty)){m x:AV}{mv xv:Value}(hm:RelV ρ m mv)(hx:RelV ρ x xv){r:AV×HEff}(he:delA H t m x=some r)(tr:TypeId):
 r.1=.lit (.tuple #[])/\∃W',(Builtin.delete_ #[t,t'] tr #[mv,xv]).run Tryz.prog W=.ok (.tuple #[]) W'/\Post N ρ H W (r.2.heap H k) k (r.2.next k) ρ W':=by
 unfold delA at he
 split at he
 ·rename_i n
  split at he
  ·rename_i kt D c ks hn
   rw[htt]at he
   simp only at he
   cases hc:Nat.beq kt t' with
   |false=>rw[hc]at he;cases he
   |true=>
    rw[hc,cond_true]at he
    have h1:=Nat.eq_of_beq_eq_true hc
    subst h1
    split at he
    ·rename_i kl hkl
     cases he
     obtain⟨b,κ,g1,rfl,g2⟩:=map_at h hn hm
     obtain⟨t1,t2⟩:=mapT_is htt
     obtain⟨W',e1,e2,e3⟩:=g2.drop t2 t1 (keyA_is hkl hx) tr
     exact⟨rfl,W',e1,Post.write h (by rw[hn];simp) g1 e3.grown e2⟩
    ·cases he
  ·cases he
 ·cases he
theorem mlen_run(h:RelH N ρ H W){t ty:TypeId}{m:AV}{mv:Value}(hm:RelV ρ m mv){r:AV×HEff}(he:mlenA H t m=some r):r.2=.no/\∃u,(Builtin.len_ #[t] ty #[mv]).run Tryz.prog W=.ok u W/\RelV ρ r.1 u:=by
 unfold mlenA at he
 split at he
 ·rename_i n
  split at he
  ·rename_i kt D c ks hn
   split at he
   ·rename_i kt' e ht
    cases hc:Nat.beq kt kt' with
    |false=>rw[hc]at he;cases he
    |true=>
     rw[hc,cond_true]at he
     have h1:=Nat.eq_of_beq_eq_true hc
     subst h1
     cases he
     obtain⟨b,κ,g1,rfl,g2⟩:=map_at h hn hm
     exact⟨rfl,_,g2.len (mapT_is ht).1 ty,rfl⟩
   ·cases he
  ·cases he
 ·cases he
theorem makeMap_sound{t:TypeId}(ho:o.op=.makeMap t none)(h:RelH N ρ H W)(hk:ρ k=none)(kt:TypeId):Sound N ρ H k Tryz.prog o a W (.mp k,.new (.mp kt (.map []) 0 [])):=by
 refine Sound.make (s:=Instr.makeMap t none) (by unfold execOp;rw[ho];rfl) (v:=.map (some W.heap.size)) (W':=W.alloc (.map #[] 0)) (run_makeMap t W) (Post.new (κ:=0) h hk (gr_alloc W _) (Nat.le_refl _) ?_) ⟨W.heap.size,0,if_pos rfl,rfl⟩
 exact World.ownsMap_made W Tryz.prog kt RH
end
end
end Go.Proofs.YtifehdoghfnhoaaGreatDoor.Ev
