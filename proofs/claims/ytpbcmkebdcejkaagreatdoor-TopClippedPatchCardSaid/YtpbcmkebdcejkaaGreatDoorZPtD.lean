/- Calls on sheets of one row: what is reckoned of each. -/
import Derived.Test.YtpbcmkebdcejkaaGreatDoorZEvLg
import Derived.Test.YtpbcmkebdcejkaaGreatDoorZCConcat
namespace Go.Proofs.YtpbcmkebdcejkaaGreatDoor.Ev
open Go.RowKit Go.Shelf
def StrB(W:World)(b:Nat)(t:TypeId)(s:ByteArray):Prop:=∃arr:Array Value,W.heap[b]? =some (.cells arr t (0,0))/\arr[0]? =some (.string s)
theorem strB_of{ρ:Rho}{W:World}{b κ:Nat}{s:ByteArray}{t:TypeId}(h:RelO ρ W b κ (.cells [.lit (.string s)] t)):StrB W b t s:=by
 obtain⟨arr,r3,r4,r5,x,xs,x1,x2,x3⟩:=h
 obtain rfl:=show x=_ from x1
 refine⟨arr,r3,?_⟩
 have:(arr.toList.take 1)[0]? =some (.string s):=by
  have:=congrArg (λl=>l[0]?) x3
  simpa using this
 rw[List.getElem?_take_of_lt (by omega)]at this
 simpa using this
theorem StrB.later{W W':World}{b:Nat}{t:TypeId}{s:ByteArray}(h:StrB W b t s)(hb:Below W.heap.size W W'):StrB W' b t s:=
 let⟨arr,h1,h2⟩:=h
 ⟨arr,(hb.block b (Array.getElem?_eq_some_iff.1 h1).1).trans h1,h2⟩
theorem reck_made{f n k:Nat}{args:List Value}{m:Value}{d:Dl}{s:ByteArray}{t:TypeId}(h:evL (.fn f) (args.map .lit) (λ_=>none) 0=some ⟨.agg [.sl n 0 1 1 1 true,.lit m],d,k⟩)(hd:look d n=some (some (.cells [.lit (.string s)] t)))(W:World):
 Calls Tryz.prog f args.toArray W λe W'=>∃b,e=.returned (.agg #[.slice (some ⟨b,0,none⟩) 1 1,m])/\W.heap.size<=b/\StrB W' b t s/\Below W.heap.size W W':=by
 have hr:=evL_ok.2 _ _ _ _ _ h
 have h0:RelH W.heap.size (λ_=>none) (λ_=>none) W:=⟨(λn o ho=>by cases ho),(λn m b κ κ' hn=>absurd rfl hn),Nat.le_refl _⟩
 obtain⟨_,h1⟩:=hr.does h0 (RelL.lits args) (λ_ _ _=>rfl)
 refine h1.mono (λe W' he=>?_)
 obtain⟨u,rfl,ρ',p1,vs,⟨v1,vs1,⟨b,κ,c,q1,rfl,q2,q3,q4,q5⟩,⟨v2,vs2,q6,q7,rfl⟩,rfl⟩,rfl⟩:=he
 obtain rfl:=show v2=_ from q6
 obtain rfl:=show vs2=[]from q7
 obtain rfl:c=1:=q3
 have ho:ovr d (λ_=>none) n=some (.cells [.lit (.string s)] t):=by unfold ovr;rw[hd]
 obtain⟨b',κ',r1,r2,r3⟩:=p1.heap.obj n _ ho
 rw[q1]at r1
 cases r1
 exact⟨b,rfl,r2,strB_of r3,p1.keep.below h0⟩
structure KeepB(b:Nat)(W W':World):Prop where
 os:W'.os=W.os
 tape:W'.tape=W.tape
 output:W'.output=W.output
 size:W.heap.size<=W'.heap.size
 block:∀j,j<W.heap.size->j≠b->W'.heap[j]? =W.heap[j]?
theorem KeepB.below{b n:Nat}{W W':World}(h:KeepB b W W')(hn:n<=b)(hw:n<=W.heap.size):Below n W W':=⟨h.os,h.tape,h.output,h.size,λj hj=>h.block j (Nat.lt_of_lt_of_le hj hw) (by omega)⟩
theorem reck_on{f k:Nat}{args:List AV}{v:Value}{s:ByteArray}{t:TypeId}(h:evL (.fn f) args (objH [(1,.cells [.lit (.string s)] t)]) 2=some ⟨.lit v,[],k⟩)(b:Nat)(W:World)(hb:StrB W b t s)(vs:List Value)
 (hv:∀κ,1<=κ->RelL (λn=>if n=1 then some (b,κ)else none) args vs):
 Calls Tryz.prog f vs.toArray W λe W'=>e=.returned v/\StrB W' b t s/\KeepB b W W':=by
 have hr:=evL_ok.2 _ _ _ _ _ h
 obtain⟨arr,b1,b2⟩:=hb
 have hsz:=(Array.getElem?_eq_some_iff.1 b2).1
 have hH:∀n,objH [(1,.cells [.lit (.string s)] t)] n=if n=1 then some (.cells [.lit (.string s)] t)else none:=λn=>by
  by_cases e:n=1
  ·subst e;rfl
  ·rw[if_neg e]
   cases n with
   |zero=>rfl
   |succ n=>cases n with
    |zero=>exact absurd rfl e
    |succ n=>rfl
 have h0:RelH 0 (λn=>if n=1 then some (b,arr.size)else none) (objH [(1,.cells [.lit (.string s)] t)]) W:=by
  refine⟨λn o ho=>?_,λn m b κ κ' hn hm _ _=>?_,Nat.zero_le _⟩
  ·rw[hH]at ho
   by_cases e:n=1
   ·subst e
    rw[if_pos rfl]at ho
    cases ho
    refine⟨b,arr.size,rfl,Nat.zero_le _,arr,b1,rfl,hsz,_,_,rfl,rfl,?_⟩
    cases arr with
    |mk l=>cases l with
     |nil=>simp at hsz
     |cons x l=>simp at b2;subst b2;rfl
   ·rw[if_neg e]at ho;cases ho
  ·rw[hH]at hn hm
   have e1:n=1:=by
    by_cases e:n=1
    ·exact e
    ·rw[if_neg e]at hn;exact absurd rfl hn
   have e2:m=1:=by
    by_cases e:m=1
    ·exact e
    ·rw[if_neg e]at hm;exact absurd rfl hm
   rw[e1,e2]
 obtain⟨_,h1⟩:=hr.does h0 (hv _ hsz) (λn hn _=>if_neg (by omega))
 refine h1.mono (λe W' he=>?_)
 obtain⟨u,rfl,ρ',p1,p2⟩:=he
 obtain rfl:=show u=v from p2
 obtain⟨b',κ',r1,r2,r3⟩:=p1.heap.obj 1 _ (hH 1)
 rw[p1.le 1 (b,arr.size) rfl]at r1
 cases r1
 refine⟨rfl,strB_of r3,p1.keep.os,p1.keep.tape,p1.keep.output,p1.keep.size,λj hj hne=>p1.keep.block j hj (λ⟨n,κ,i1,i2⟩=>?_)⟩
 by_cases e:n=1
 ·subst e
  exact hne (congrArg Prod.fst (Option.some.inj i2)).symm
 ·simp only at i2
  rw[if_neg e]at i2
  cases i2
end Go.Proofs.YtpbcmkebdcejkaaGreatDoor.Ev
namespace Go.Proofs.YtpbcmkebdcejkaaGreatDoor.Pt
open Go.RowKit Go.Shelf Go.Proofs.YtpbcmkebdcejkaaGreatDoor.C
def bitN(b i:Nat):Bool:=Nat.beq (Nat.mod (Nat.div b (Nat.pow 2 i)) 2) 1
def fsOf(L b:Nat):List Int:=((List.range L).filter (bitN b)).map Int.ofNat
def clr(b l c:Nat):Bool:=(List.range c).all λi=>!(bitN b (l+i))
def bestP(L b:Nat):Option (Nat×Nat):=
 (List.range (L*L)).foldl (λo n=>bif Nat.ble (n / L+(n % L+1)) L&&clr b (n / L) (n % L+1)&&(match o with|none=>true|some p=>Nat.blt p.2 (n % L+1))then some (n / L,n % L+1)else o) none
def worth(L b w:Nat):Int:=aheadAt L (Fst (fsOf L b) L) [⟨(w:Nat),1,0⟩] L L
def factW(L b w:Nat):Bool:=decide (worth L b 1=(L:Int)-((fsOf L b).length:Int))&&decide (0<=worth L b w)&&decide (worth L b w*(w:Int)<=worth L b 1)&&
 (match bestP L b with|some p=>(decide (0<worth L b w)==Nat.ble w p.2)|none=>decide (worth L b 1=0)&&decide (worth L b w=0))
def factA(L b:Nat):Bool:=(List.range L).all λi=>factW L b (i+1)
def factAll(L:Nat):Bool:=(List.range (2^L)).all (factA L)
theorem fact1:factAll 1=true:=by kernel_rfl
theorem fact2:factAll 2=true:=by kernel_rfl
theorem fact3:factAll 3=true:=by kernel_rfl
theorem fact4:factAll 4=true:=by kernel_rfl
theorem fact5:factAll 5=true:=by kernel_rfl
theorem fact6:factAll 6=true:=by kernel_rfl
end Go.Proofs.YtpbcmkebdcejkaaGreatDoor.Pt
namespace Go.Proofs.YtpbcmkebdcejkaaGreatDoor.Ev
open Go.RowKit Go.Shelf Go.Proofs.YtpbcmkebdcejkaaGreatDoor.Pt
noncomputable section
def strT:Nat:=9
def rowS(L b:Nat):ByteArray:=⟨((List.range L).map λi=>bif bitN b i then(35:UInt8)else 46).toArray⟩
def sheetA:AV:=.agg [.sl 1 0 1 1 1 true,.lit (.int .i64 (.ofNat 36))]
def objS(L b:Nat):Hp:=objH [(1,.cells [.lit (.string (rowS L b))] strT)]
def pcV(l c:Nat):Value:=.agg #[.int .i64 (.ofNat 0),.int .i64 (.ofNat l),.int .i64 (.ofNat 1),.int .i64 (.ofNat c)]
def resV:Option (Nat×Nat)->Value
 |some p=>.tuple #[pcV p.1 p.2,.int .i64 (.ofNat 0)]
 |none=>.tuple #[.agg #[.int .i64 (.ofNat 0),.int .i64 (.ofNat 0),.int .i64 (.ofNat 0),.int .i64 (.ofNat 0)],.int .i64 (.ofNat 5)]
def argsS(L b:Nat):List Value:=[.int .i64 (.ofNat L),.int .u8 (.ofNat b),.string ⟨#[35]⟩,.int .i64 (.ofNat 36)]
def chkS(L b:Nat):Bool:=match evL (.fn 6) ((argsS L b).map .lit) (λ_=>none) 0 with
 |some ⟨.agg [.sl n 0 1 1 1 true,.lit m],d,_⟩=>match look d n with
  |some (some (.cells [.lit (.string s)] t))=>Nat.beq t strT&&(eqS (.string s) (.string (rowS L b))&&eqS m (.int .i64 (.ofNat 36)))
  |_=>false
 |_=>false
def lrgR(L b:Nat):Option (AV×Dl):=(evL (.fn 8) [sheetA] (objS L b) 2).map (λr=>(r.v,r.d))
def chkC(L b:Nat):Bool:=match bestP L b with
 |none=>true
 |some p=>match evL (.fn 9) [sheetA,.lit (pcV p.1 p.2)] (objS L b) 2 with
  |some ⟨.lit (.int .i64 (.ofNat 0)),[],_⟩=>true
  |_=>false
end
structure OkT(L b:Nat):Prop where
 s:chkS L b=true
 l:lrgR L b=some (.lit (resV (bestP L b)),[])
 c:chkC L b=true
theorem OkT.strip{L b:Nat}(h:OkT L b)(W:World):Calls Tryz.prog 6 #[.int .i64 (L:Nat),.int .u8 (b:Nat),.string ⟨#[35]⟩,.int .i64 36] W λe W'=>∃k,e=.returned (.agg #[.slice (some ⟨k,0,none⟩) 1 1,.int .i64 36])/\W.heap.size<=k/\StrB W' k strT (rowS L b)/\Below W.heap.size W W':=by
 have hs:=h.s
 unfold chkS at hs
 split at hs
 ·rename_i n m d k he
  split at hs
  ·rename_i s t hd
   simp only[Bool.and_eq_true]at hs
   obtain⟨h1,h2,h3⟩:=hs
   obtain rfl:=Nat.eq_of_beq_eq_true h1
   have h2:=eqS_is h2
   obtain rfl:=eqS_is h3
   cases h2
   exact reck_made he hd W
  ·cases hs
 ·cases hs
theorem sheet_rel(b κ:Nat):RelV (λn=>if n=1 then some (b,κ)else none) sheetA (.agg #[.slice (some ⟨b,0,none⟩) 1 1,.int .i64 36])\/κ=0:=by
 cases κ with
 |zero=>exact .inr rfl
 |succ κ=>exact .inl ⟨[_,_],⟨_,_,⟨b,κ+1,1,rfl,rfl,Nat.le_refl _,rfl,by omega,by decide⟩,⟨_,_,rfl,rfl,rfl⟩,rfl⟩,rfl⟩
theorem OkT.largest{L b:Nat}(h:OkT L b)(k:Nat)(W:World)(hb:StrB W k strT (rowS L b)):Calls Tryz.prog 8 #[.agg #[.slice (some ⟨k,0,none⟩) 1 1,.int .i64 36]] W λe W'=>e=.returned (resV (bestP L b))/\StrB W' k strT (rowS L b)/\KeepB k W W':=by
 have hl:=h.l
 unfold lrgR at hl
 cases he:evL (.fn 8) [sheetA] (objS L b) 2 with
 |none=>rw[he]at hl;cases hl
 |some r=>
  rw[he]at hl
  obtain⟨rv,rd,rk⟩:=r
  simp only[Option.map_some,Option.some.injEq,Prod.mk.injEq]at hl
  obtain⟨rfl,rfl⟩:=hl
  exact reck_on he k W hb [_] (λκ hκ=>⟨_,_,(sheet_rel k κ).resolve_right (by omega),rfl,rfl⟩)
theorem OkT.check{L b:Nat}(h:OkT L b){p:Nat×Nat}(hp:bestP L b=some p)(k:Nat)(W:World)(hb:StrB W k strT (rowS L b)):Calls Tryz.prog 9 #[.agg #[.slice (some ⟨k,0,none⟩) 1 1,.int .i64 36],pcV p.1 p.2] W λe W'=>e=.returned (.int .i64 0)/\StrB W' k strT (rowS L b)/\KeepB k W W':=by
 have hc:=h.c
 unfold chkC at hc
 rw[hp]at hc
 simp only at hc
 split at hc
 ·rename_i kk he
  exact reck_on he k W hb [_,_] (λκ hκ=>⟨_,_,(sheet_rel k κ).resolve_right (by omega),⟨_,_,rfl,rfl,rfl⟩,rfl⟩)
 ·cases hc
end Go.Proofs.YtpbcmkebdcejkaaGreatDoor.Ev
