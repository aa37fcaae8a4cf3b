/- steam's vat.loads: the loads of right hours. · slices.SortStableFunc at up to 20 numbers: the plain law of its inner rounds. · Rows of the call's own beside one another; lists of numbers that nothing else writes. General. -/
import Derived.Test.YtifehdoghfnhoaaGreatDoorZSTwo
import Derived.Lib.SliceRun
import Derived.Lib.EndianMore
import Derived.ChangeKeysEq
import Derived.BigRegion
import Derived.ArgAppend
import Derived.Deep.OwnRows
namespace Go.Proofs.YtifehdoghfnhoaaGreatDoor
open Go.RowKit Go.Shelf
def cntP(hs:List Int)(t:Nat):Int:=((hs.countP λh=>decide (h=(t:Int)):Nat):Int)
def loadsTo(L:Int)(hs:List Int):Nat->Int
 |0=>0
 |t+1=>loadsTo L hs t+upI (cntP hs t) L
def loadsP(L:Int)(hs:List Int):Int:=loadsTo L hs 101
@[irreducible] def cArr (F:Nat->Int):Array Value:=((List.range 101).map (λj=>Value.int .i64 (F j))).toArray
theorem cArr_get(F:Nat->Int){j:Nat}(h:j<101):(cArr F)[j]? =some (.int .i64 (F j)):=by unfold cArr;simp[h]
theorem cArr_size(F:Nat->Int):(cArr F).size=101:=by unfold cArr;simp
def updN(F:Nat->Int)(j:Nat)(v:Int):Nat->Int:=λk=>if k=j then v else F k
theorem cArr_set(F:Nat->Int)(j:Nat)(v:Int):(cArr F).setIfInBounds j (.int .i64 v)=cArr (updN F j v):=by
 apply Array.ext
 ·simp[cArr_size]
 ·intro i h1 h2
  have hi:i<101:=by simpa[cArr_size]using h2
  have e1:=cArr_get (updN F j v) hi
  have e2:=cArr_get F hi
  rw[Array.getElem?_eq_getElem h2]at e1
  rw[Array.getElem?_eq_getElem (by simpa[cArr_size]using hi)]at e2
  simp only[Option.some.injEq]at e1 e2
  rw[e1,Array.getElem_setIfInBounds (by simpa[cArr_size]using hi)]
  by_cases e:j=i
  ·subst e;simp[updN]
  ·rw[if_neg e,e2]
   simp[updN,show¬i=j fromλh=>e h.symm]
theorem und_i64:Tryz.prog.underlying 2=some (.int .i64):=by kernel_rfl
theorem info_counts:∃i,Tryz.prog.info? 399=some i/\i.size=101/\i.zero=some (.agg (cArr λ_=>0)):=by
 have h:(Tryz.prog.info? 399).map (λi=>(i.size,i.zero))=some (101,some (.agg (cArr λ_=>0))):=by kernel_rfl
 cases hi:Tryz.prog.info? 399 with
 |none=>simp[hi]at h
 |some i=>simp only[hi,Option.map_some,Option.some.injEq,Prod.mk.injEq]at h;exact⟨i,rfl,h.1,h.2⟩
theorem eqc_items(d:Nat)(A B:Nat->Int)(W:World):∀l:List Nat,(∀j∈l,j<101)->(Op.eqItems (d+1) 2 1 (cArr A) (cArr B) l).run Tryz.prog W=.ok (l.all λj=>A j==B j) W:=by
 intro l
 induction l with
 |nil=>intro _;simp[Op.eqItems]
 |cons j l ih=>
  intro h
  have ih:=ih (λk hk=>h k (by simp[hk]))
  have p1:∀F,(part 2 (cArr F) j).run Tryz.prog W=.ok (.int .i64 (F j)) W:=by
   intro F
   have hpk:Tryz.prog.plainKey 2=true:=by kernel_rfl
   exact run_part_plain W hpk (cArr_get F (h j (by simp)))
  simp only[Op.eqItems,Nat.mul_one,Sem.run_bind,p1,Result.andThen_ok,run_equalIn_int _ _ _ _ _ _ _ und_i64]
  cases hab:(A j==B j)with
  |true=>simp[hab,ih]
  |false=>simp[hab]
theorem counts_eq(A B:Nat->Int)(W:World):(Op.equalIn 10000 399 (.agg (cArr A)) (.agg (cArr B))).run Tryz.prog W=.ok ((List.range 101).all λj=>A j==B j) W:=by
 have hq:(Tryz.prog.info? 2).isSome=true:=by kernel_rfl
 obtain⟨i,hi⟩:=Option.isSome_iff_exists.1 hq
 have hu:Tryz.prog.underlying 399=some (.array 101 2):=by kernel_rfl
 rw[run_equalIn_array (P:=Tryz.prog) (w:=W) 9999 (e:=2) (n:=101) (cArr A) (cArr B) hu hi,show Tryz.prog.cellsOf 2=1 from by kernel_rfl]
 exact eqc_items 9998 A B W _ (λj hj=>List.mem_range.1 hj)
theorem load_counts{W:World}{T:Nat}{A:Nat->Int}(h:Blk W T 399 (cArr A)):(loadVar 399 ⟨T,0,none⟩).run Tryz.prog W=.ok (.agg (cArr A)) W:=by
 have hl:(loadCells ⟨T,0,none⟩ (cArr A).toList.length).run Tryz.prog W=.ok (cArr A).toList.toArray W:=
  run_loadCells_list (P:=Tryz.prog) W ⟨T,0,none⟩ (cArr A).toList (λj v hv=>by
   have hj:j<101:=by have:=(List.getElem?_eq_some_iff.1 hv).1;simpa[cArr_size]using this
   have hadd:(⟨T,0,none⟩:Addr).add j=⟨T,j,none⟩:=by unfold Addr.add;split<;>simp_all
   rw[hadd,h.cell j]
   simpa using hv)
 have hsz:(cArr A).toList.length=101:=by simp[cArr_size]
 rw[hsz]at hl
 obtain⟨i,hi,hs,_⟩:=info_counts
 have hagg:(isAgg 399).run Tryz.prog W=.ok true W:=by
  unfold isAgg
  rw[Sem.run_bind,run_underlying (t:=399) (d:=.array 101 2) (by kernel_rfl) W]
  rfl
 simp only[Array.toArray_toList]at hl
 simp[loadVar,Sem.run_bind,hagg,sizeOf,typeInfo,hi,hs,hl]
theorem blk_setCells_other{b b':Nat}{t:TypeId}{cs:Array Value}(hne:b≠b'):∀(vs:List Value)(o:Nat)(W:World),Blk W b t cs->Blk (W.setCells b' o vs) b t cs
 |[],_,_,h=>h
 |v::vs,o,_,h=>blk_setCells_other hne vs (o+1) _ (h.other (p:=⟨b',o,none⟩) (λe=>hne e.symm) v)
theorem repl_get{α:Type}{n j:Nat}{z v:α}(h:(List.replicate n z)[j]? =some v):j<n/\v=z:=by
 rw[List.getElem?_replicate]at h
 split at h
 ·rename_i h1;cases h;exact⟨h1,rfl⟩
 ·cases h
theorem blk_setCells{b:Nat}{t:TypeId}{cs:Array Value}:∀(vs:List Value)(o:Nat)(W:World),Blk W b t cs->(∀j v,vs[j]? =some v->cs[o+j]? =some v)->Blk (W.setCells b o vs) b t cs
 |[],_,_,h,_=>h
 |v::vs,o,W,h,hv=>by
  have h0:=hv 0 v rfl
  have h1:cs.setIfInBounds o v=cs:=by
   apply Array.ext
   ·simp
   ·intro i h2 h3
    rw[Array.getElem_setIfInBounds h3]
    by_cases e:o=i
    ·subst e
     rw[Nat.add_zero,Array.getElem?_eq_getElem h3]at h0
     simp at h0
     simp[h0]
    ·simp[e]
  have h2:=h.set o v
  rw[h1]at h2
  exact blk_setCells vs (o+1) _ h2 (λj u hu=>by rw[Nat.add_assoc,Nat.add_comm 1 j];exact hv (j+1) u (by simpa using hu))
structure CW(w W:World)(g:Nat)(L:Int)(A:Option Addr)(n c:Nat)(F:Nat->Int):Prop where
 bel:Below w.heap.size w W
 b0:Blk W w.heap.size 399 (cArr F)
 v0:Blk W g 99 #[.int .i64 L,.slice A n c]
section
variable{w W W':World}{g:Nat}{L:Int}{A:Option Addr}{n c:Nat}{F:Nat->Int}
theorem CW.later(h:CW w W g L A n c F)(hb:Below W.heap.size W W'):CW w W' g L A n c F:=⟨Below.later h.bel hb,h.b0.later hb,h.v0.later hb⟩
theorem CW.set(h:CW w W g L A n c F)(hg:g<w.heap.size)(j:Nat)(v:Int):CW w (W.setCell ⟨w.heap.size,j,none⟩ (.int .i64 v)) g L A n c (updN F j v):=
 ⟨h.bel.setCell (Nat.le_refl _) _,by have h1:=h.b0.set j (.int .i64 v);rw[cArr_set]at h1;exact h1,h.v0.other (by simp;omega) _⟩
end
theorem zero_counts(w:World):(zeroValue 399).run Tryz.prog w=.ok (.agg (cArr λ_=>0)) w:=by
 obtain⟨i,hi,_,hz⟩:=info_counts
 simp[zeroValue,typeInfo,Sem.run_bind,hi,hz]
theorem info_one:∃i,Tryz.prog.info? 2=some i/\i.size=1:=by
 have h:(Tryz.prog.info? 2).map (λi=>i.size)=some 1:=by kernel_rfl
 cases hi:Tryz.prog.info? 2 with
 |none=>simp[hi]at h
 |some i=>simp only[hi,Option.map_some,Option.some.injEq]at h;exact⟨i,rfl,h⟩
theorem index_counts(F:Nat->Int)(i:Nat)(hi:i<101)(w:World):(Instr.index 399 (.agg (cArr F)) (.int .i64 (i:Int))).run Tryz.prog w=.ok (.int .i64 (F i)) w:=by
 have hu:Tryz.prog.underlying 399=some (.array 101 2):=by kernel_rfl
 have hpk:Tryz.prog.plainKey 2=true:=by kernel_rfl
 obtain⟨ie,hie,hs⟩:=info_one
 have hp:(part 2 (cArr F) i).run Tryz.prog w=.ok (.int .i64 (F i)) w:=run_part_plain w hpk (cArr_get F hi)
 simp[Instr.index,asIntOf,run_underlying hu,Sem.run_bind,sizeOf,typeInfo,hie,hs,hp]
 intro h
 omega
theorem wpList_alloc_val{P:Program}{w:World}{ops:Array Oper}{rest:List Oper}{o:Oper}{a:Act}{Q:Exit->Act->World->Prop}(hg:o.guard=none)(t:TypeId)(hop:o.op=.alloc t)(v:Value)(hz:(zeroValue t).run P w=.ok v w)
 (h:wpList P ops Q rest (a.put o.dst (.pointer (some ⟨w.heap.size,0,none⟩))) (w.alloc (.cells v.cells t))):wpList P ops Q (o::rest) a w:=by
 refine wpList_plain hg λK' hK'=>?_
 unfold Oper.wp
 simp[execOp,hop,Instr.alloc,hz,newVar,newRow,Sem.run_bind,Result.andThen_ok]
 exact hK' _ _ h
theorem wpList_load_val{P:Program}{w:World}{ops:Array Oper}{rest:List Oper}{o:Oper}{a:Act}{Q:Exit->Act->World->Prop}(hg:o.guard=none)(ty:TypeId)(x:Operand)(hop:o.op=.load ty x)(p:Addr)(hx:a.eval x=.pointer (some p))(v:Value)
 (hr:(loadVar ty p).run P w=.ok v w)(h:wpList P ops Q rest (a.put o.dst v) w):wpList P ops Q (o::rest) a w:=by
 refine wpList_plain hg λK' hK'=>?_
 unfold Oper.wp
 simp only[execOp,hop,hx,Instr.loadAt,Instr.sureAddr,Sem.run_bind,Sem.run_pure,Result.andThen_ok,hr]
 exact hK' _ _ h
theorem wpList_build_val{P:Program}{w:World}{ops:Array Oper}{rest:List Oper}{o:Oper}{a:Act}{Q:Exit->Act->World->Prop}(hg:o.guard=none)(t:TypeId)(hop:o.op=.build t #[])(n:Nat)(e:TypeId)(i:TypeInfo)(hu:P.underlying t=some (.array n e))(hi:P.info? e=some i)(v:Value)(hz:(zeroValue t).run P w=.ok v w)
 (h:wpList P ops Q rest (a.put o.dst (.agg v.cells)) w):wpList P ops Q (o::rest) a w:=by
 refine wpList_plain hg λK' hK'=>?_
 unfold Oper.wp
 simp[execOp,hop,Instr.build,hz,run_underlying hu,sizeOf,typeInfo,hi,Instr.fill,Sem.run_bind,Result.andThen_ok]
 exact hK' _ _ h
set_option maxRecDepth 100000 in
set_option maxHeartbeats 2000000 in
theorem loads_any(g:Nat)(L:Int)(A:Option Addr)(n c:Nat)(B:Option Addr)(m k:Nat)(hs:List Int)(w:World)(hv:Blk w g 99 #[.int .i64 L,.slice A n c])(hh:Sl 1 encI w w.heap.size B m k hs)(hm:m<=100)(hL:1<=L/\L<=10)(hr:∀h∈hs,0<=h/\h<=100):
 Calls Tryz.prog 255 #[.pointer (some ⟨g,0,none⟩),.slice B m k] w λe w'=>e=.returned (.int .i64 (loadsP L hs))/\Below w.heap.size w w':=by
 obtain rfl:=hh.len
 have Hh:=Lib.hid hh
 have hgl:=hv.lt
 have hb0:Blk (w.alloc (.cells (cArr λ_=>0) 399)) w.heap.size 399 (cArr λ_=>0):=Blk.new w _ _
 have hbs:=blk_setCells (List.replicate 101 (.int .i64 0)) 0 _ hb0 (λj v hv=>by
  obtain⟨hj,rfl⟩:=repl_get hv
  rw[Nat.zero_add,cArr_get _ hj])
 have Hv:=Lib.hid (blk_setCells_other (show g≠w.heap.size by omega) (List.replicate 101 (.int .i64 0)) 0 _ (hv.alloc (.cells (cArr λ_=>0) 399)))
 have hcl:=λty=>Lib.run_clear_slice (P:=Tryz.prog) (w.alloc (.cells (cArr λ_=>0) 399)) 40 2 ty (.int .i64 0) (by kernel_rfl) (λ_=>by rfl) rfl rfl w.heap.size 0 101 101 (by omega) (λj hj=>by rw[hb0.cell,Nat.zero_add,cArr_get _ hj];rfl) (λj hj=>hb0.frozen _)
 have Hcl:=Lib.hid hcl
 have HC:=Lib.hid (show CW w _ g L A n c _ from⟨(balloc (brefl w) (.cells (cArr λ_=>0) 399)).trans (Lib.below_setCells_w (Nat.le_refl _) _ 0 _),hbs,Hv.out⟩)
 have hz:=zero_counts w
 have c0:=hb0.lt
 clear hb0 hbs hcl hv hh Hv
 have Hr:=Lib.hid hr
 clear hr
 go_enter Tryz.func255,Tryz.ntmps255
 go_wp2_with (refine wpList_alloc_val rfl 399 rfl _ hz ?_)
 clear hz
 rw[Hcl.out]
 simp only[Result.andThen]
 rw[Oper.upon_value]
 generalize (w.alloc (.cells (cArr λ_=>0) 399)).setCells w.heap.size 0 (List.replicate 101 (.int .i64 0))=W0 at*
 clear Hcl c0
 go_wp2_with fail
 refine lpn (λm b W=>b.defers=[]/\∃i:Nat,i+m=hs.length/\CW w W g L A n c (cntP (hs.take i))/\Fits (some (.pointer (some ⟨g,0,none⟩))::none::none::none::none::some (.pointer (some ⟨w.heap.size,0,none⟩))::none::none::none::none::none::none::none::some (.slice B hs.length k)::some (.int .i64 (hs.length:Nat))::some (.int .i64 (i:Nat))::none::none::none::none::none::none::none::none::none::none::none::none::none::none::none::none::none::none::none::none::none::none::none::none::none::[]) b.tmps.toList) hs.length ?_ ?_
 ·refine⟨rfl,0,by omega,?_,?_⟩
  ·rw[show cntP (hs.take 0)=λ_=>0 from funext λt=>by simp[cntP]];exact HC.out
  repeat (first|exact ftL|refine ftN ?_|refine ftS ?_)
 clear HC
 clear W0
 intro m b W hI K hK
 obtain⟨hds,i,him,hC,hfit⟩:=hI
 obtain⟨f,hf⟩:=ftA hfit
 rw[hds]at hf
 subst hf
 clear hfit hds
 simp only[fillP,Nat.reduceAdd]
 have HC:=Lib.hid hC
 by_cases hlt:i<hs.length
 ·obtain⟨rb,ro,x,rfl,hrb,hx,g0⟩:=(Hh.out.later hC.bel).ltI hlt
  have i1:(i:Int)<(hs.length:Int):=by omega
  have i2:(0:Int)<=(i:Int):=by omega
  obtain⟨h0,h1⟩:=Hr.out x (List.mem_of_getElem? hx)
  obtain⟨t,rfl⟩:∃t:Nat,x=t:=⟨x.toNat,by omega⟩
  have ht:t<101:=by omega
  have hst:=λp=>count_take (p:=p) hx
  have c0:=hC.b0.cell t
  rw[cArr_get _ ht]at c0
  have c2:=hC.b0.lt
  have c3:=hC.b0.frozen t
  have hbd:cntP (hs.take i) t<=100/\0<=cntP (hs.take i) t:=by
   have:=List.countP_le_length (p:=λh=>decide (h=(t:Int))) (l:=hs.take i)
   have:(hs.take i).length<=hs.length:=by simp;omega
   unfold cntP;omega
  have HS:=Lib.hid (hC.set hgl t (cntP (hs.take i) t+1))
  have hfun:updN (cntP (hs.take i)) t (cntP (hs.take i) t+1)=cntP (hs.take (i+1)):=by
   funext s
   unfold updN cntP
   rw[hst]
   by_cases e:s=t
   ·subst e;simp
   ·rw[if_neg e];simp[show¬(t:Int)=(s:Int)from by omega]
  rw[hfun]at HS
  generalize cntP (hs.take i) t=q at*
  have i4:IntKind.i64.wrap (q+1)=q+1:=by rw[IntKind.wrap_i64];omega
  have i3:IntKind.i64.wrap ((i:Int)+1)=(i:Int)+1:=by rw[IntKind.wrap_i64];omega
  have i5:(t:Int)<101:=by omega
  have i6:(0:Int)<=(t:Int):=by omega
  clear hC hx hst hfun HC
  go_wp2
  refine hK _ _ (m-1) (by omega) ⟨rfl,i+1,by omega,HS.out,?_⟩
  repeat (first|exact ftL|refine ftN ?_|refine ftS ?_)
 ·obtain rfl:i=hs.length:=by omega
  rw[List.take_length]at hC HC
  have hbd:∀t,0<=cntP hs t/\cntP hs t<=100:=λt=>by
   have:=List.countP_le_length (p:=λh=>decide (h=(t:Int))) (l:=hs)
   unfold cntP;omega
  have hld:=load_counts hC.b0
  have heq:=counts_eq (cntP hs) (λ_=>0) W
  have Hbd:=Lib.hid hbd
  have Hlo:=Lib.hid (show∀t:Nat,t<=101->0<=loadsTo L hs t/\loadsTo L hs t<=t*2000 fromλt=>by
   induction t with
   |zero=>intro _;simp[loadsTo]
   |succ t ih=>
    intro ht
    have h1:=ih (by omega)
    obtain⟨_,_,_,_,_,u0,u1⟩:=upI_facts hL (x:=cntP hs t) (by have:=hbd t;omega)
    simp only[loadsTo]
    omega)
  have hP:∀t,(∀j,j<t->cntP hs j=0)->loadsTo L hs t=0:=by
   intro t
   induction t with
   |zero=>intro _;rfl
   |succ t ih=>
    intro h
    have h1:=ih (λj hj=>h j (by omega))
    have h2:upI 0 L=0:=by unfold upI;exact Int.ediv_eq_zero_of_lt (by omega) (by omega)
    simp only[loadsTo,h1,h t (by omega),h2];rfl
  obtain⟨zb,hzb⟩:∃zb,((List.range 101).all λj=>cntP hs j==0)=zb:=⟨_,rfl⟩
  rw[hzb]at heq
  have Hz:=Lib.hid hzb
  have HP:=Lib.hid hP
  obtain⟨ie,hie⟩:=Option.isSome_iff_exists.1 (show(Tryz.prog.info? 2).isSome=true by kernel_rfl)
  have Hie:=Lib.hid hie
  have c2:=hC.b0.lt
  clear hK hC hbd hzb hP hie
  cases zb with
  |true=>
   go_wp2_with (first|refine wpList_load_val rfl 399 _ rfl _ rfl _ hld ?_|refine wpList_build_val rfl 399 rfl 101 2 ie (by kernel_rfl) Hie.out _ (zero_counts _) ?_)
   go_ret
   exact⟨ret_int (by unfold loadsP;rw[HP.out 101 λj hj=>by simpa using List.all_eq_true.1 Hz.out j (List.mem_range.2 hj)]),HC.out.bel⟩
  |false=>
   clear HP
   go_wp2_with (first|refine wpList_load_val rfl 399 _ rfl _ rfl _ hld ?_|refine wpList_build_val rfl 399 rfl 101 2 ie (by kernel_rfl) Hie.out _ (zero_counts _) ?_)
   clear heq hld
   refine lpn (λm b V=>b.defers=[]/\∃i:Nat,i+m=101/\CW w V g L A n c (cntP hs)/\Fits (none::none::none::none::none::none::none::none::some (.int .i64 (loadsTo L hs i))::some (.func (.func 342) #[.pointer (some ⟨g,0,none⟩)] #[])::none::none::none::none::none::none::none::none::none::none::none::none::none::none::none::none::none::none::none::none::some (.agg (cArr (cntP hs)))::some (.int .i64 (i:Nat))::none::none::none::none::none::none::none::none::none::[]) b.tmps.toList) 101 ?_ ?_
   ·refine⟨rfl,0,by omega,HC.out,?_⟩
    repeat (first|exact ftL|refine ftN ?_|refine ftS ?_)
   clear HC
   intro m b V hI K hK
   obtain⟨hds,i,him,hC,hfit⟩:=hI
   obtain⟨f,hf⟩:=ftA hfit
   rw[hds]at hf
   subst hf
   clear hfit hds
   simp only[fillP,Nat.reduceAdd]
   have HC:=Lib.hid hC
   have hlo:=Hlo.out i (by omega)
   obtain⟨a0,a1⟩:=hlo
   by_cases hlt:i<101
   ·have i1:(i:Int)<101:=by omega
    have i2:(0:Int)<=(i:Int):=by omega
    have i3:IntKind.i64.wrap ((i:Int)+1)=(i:Int)+1:=by rw[IntKind.wrap_i64];omega
    have hb:=Hbd.out i
    obtain⟨_,_,_,_,_,u0,u1⟩:=upI_facts hL (x:=cntP hs i) (by omega)
    have hw:IntKind.i64.wrap (loadsTo L hs i+upI (cntP hs i) L)=loadsTo L hs (i+1):=by rw[IntKind.wrap_i64];simp only[loadsTo];omega
    have hg:=index_counts (cntP hs) i hlt V
    have hup:=Lib.hid (up_any g L A n c (cntP hs i) V hC.v0 hL (by omega))
    clear hC u0 u1 hb
    generalize loadsTo L hs i=s at*
    obtain⟨s',hs'⟩:∃s',loadsTo L hs (i+1)=s':=⟨_,rfl⟩
    rw[hs']at hw
    have HS:=Lib.hid hs'
    clear hs'
    generalize upI (cntP hs i) L=u at*
    generalize cntP hs i=q at*
    go_wp2_with fail
    refine hup.out.mono ?_
    rintro e w2⟨rfl,hb2⟩
    have HC2:=Lib.hid (HC.out.later hb2)
    clear hb2
    go_wp2
    refine hK _ _ (m-1) (by omega) ⟨rfl,i+1,by omega,HC2.out,?_⟩
    rw[HS.out]
    repeat (first|exact ftL|refine ftN ?_|refine ftS ?_)
   ·obtain rfl:i=101:=by omega
    clear hK
    go_wp2
    go_ret
    exact⟨ret_int rfl,HC.out.bel⟩
end Go.Proofs.YtifehdoghfnhoaaGreatDoor
namespace Go.Proofs.YtifehdoghfnhoaaGreatDoor
open Go.RowKit Go.Shelf
structure Ins(cf:Nat->Nat->Int)(i j:Nat)(l:List Nat):Prop where
 le:∀p q x y,p<q->q<=i->p≠j->q≠j->l[p]? =some x->l[q]? =some y->cf x y<=0
 lt:∀q x y,j<q->q<=i->l[j]? =some x->l[q]? =some y->cf x y<=0
def Srt(cf:Nat->Nat->Int)(i:Nat)(l:List Nat):Prop:=∀p q x y,p<q->q<i->l[p]? =some x->l[q]? =some y->cf x y<=0
def swapL(l:List Nat)(i j x y:Nat):List Nat:=(l.set i y).set j x
theorem swapL_perm{l:List Nat}{i j x y:Nat}(hi:l[i]? =some x) (hj:l[j]? =some y):(swapL l i j x y).Perm l:=by
 obtain⟨h1,rfl⟩:=List.getElem?_eq_some_iff.1 hi
 obtain⟨h2,rfl⟩:=List.getElem?_eq_some_iff.1 hj
 exact List.set_set_perm h1 h2
theorem swapL_get{l:List Nat}{j x y:Nat}(hi:l[j+1]? =some x) (hj:l[j]? =some y) (p:Nat):(swapL l (j+1) j x y)[p]? =if p=j then some x else if p=j+1 then some y else l[p]? :=by
 have h1:=(List.getElem?_eq_some_iff.1 hi).1
 have h2:=(List.getElem?_eq_some_iff.1 hj).1
 unfold swapL
 rw[List.getElem?_set,List.getElem?_set]
 simp only[List.length_set]
 by_cases e:p=j
 ·subst e;simp[h2]
 ·by_cases e2:p=j+1
  ·subst e2
   simp[h1]
  ·rw[if_neg (λh=>e h.symm),if_neg (λh=>e2 h.symm),if_neg e,if_neg e2]
theorem Ins.start{cf:Nat->Nat->Int}{i:Nat}{l:List Nat}(h:Srt cf i l):Ins cf i i l:=
 ⟨λp q x y h1 h2 _ h4 hx hy=>h p q x y h1 (by omega) hx hy,λq x y h1 h2=>by omega⟩
theorem Ins.swap{cf:Nat->Nat->Int}(hsym:∀x y,cf x y<0->cf x y<=0){i j:Nat}{l:List Nat}(h:Ins cf i (j+1) l)(hji:j+1<=i){x y:Nat}(hx:l[j+1]? =some x) (hy:l[j]? =some y) (hc:cf x y<0):Ins cf i j (swapL l (j+1) j x y):=by
 refine⟨λp q u v h1 h2 h3 h4 hu hv=>?_,λq u v h1 h2 hu hv=>?_⟩
 ·rw[swapL_get hx hy]at hu hv
  rw[if_neg h3]at hu
  rw[if_neg h4]at hv
  by_cases e1:p=j+1
  ·subst e1
   rw[if_pos rfl]at hu
   rw[if_neg (by omega)]at hv
   cases hu
   exact h.le j q y v (by omega) h2 (by omega) (by omega) hy hv
  ·rw[if_neg e1]at hu
   by_cases e2:q=j+1
   ·subst e2
    rw[if_pos rfl]at hv
    cases hv
    exact h.le p j u y (by omega) (by omega) e1 (by omega) hu hy
   ·rw[if_neg e2]at hv
    exact h.le p q u v h1 h2 e1 e2 hu hv
 ·rw[swapL_get hx hy]at hu hv
  rw[if_pos rfl]at hu
  rw[if_neg (by omega)]at hv
  cases hu
  by_cases e2:q=j+1
  ·subst e2
   rw[if_pos rfl]at hv
   cases hv
   exact hsym _ _ hc
  ·rw[if_neg e2]at hv
   exact h.lt q x v (by omega) h2 hx hv
theorem Ins.done{cf:Nat->Nat->Int}{i j:Nat}{l:List Nat}(h:Ins cf i j l)(htr:∀x y z,cf x y<=0->cf y z<=0->cf x z<=0)(hil:i<l.length)(hc:∀k x y,j=k+1->l[j]? =some x->l[k]? =some y->cf y x<=0):Srt cf (i+1) l:=by
 intro p q x y h1 h2 hx hy
 by_cases e1:p=j
 ·subst e1;exact h.lt q x y h1 (by omega) hx hy
 ·by_cases e2:q=j
  ·subst e2
   obtain⟨k,rfl⟩:∃k,q=k+1:=⟨q-1,by omega⟩
   obtain⟨z,hz⟩:∃z,l[k]? =some z:=⟨l[k]'(by omega),List.getElem?_eq_getElem (by omega)⟩
   have h3:=hc k y z rfl hy hz
   by_cases e3:p=k
   ·subst e3
    rw[hx]at hz;cases hz
    exact h3
   ·exact htr x z y (h.le p k x z (by omega) (by omega) e1 (by omega) hx hz) h3
  ·exact h.le p q x y h1 (by omega) e1 e2 hx hy
def encN(n:Nat):Value:=.int .i64 (n:Int)
def lArr(l:List Nat)(tail:List Value):Array Value:=(l.map encN++tail).toArray
theorem lArr_get{l:List Nat}{tail:List Value}{j x:Nat}(h:l[j]? =some x):(lArr l tail)[j]? =some (.int .i64 (x:Int)):=by
 have hj:=(List.getElem?_eq_some_iff.1 h).1
 simp only[lArr,List.getElem?_toArray]
 rw[List.getElem?_append_left (by simpa using hj),List.getElem?_map,h];rfl
theorem lArr_set{l:List Nat}{tail:List Value}{j:Nat}(h:j<l.length)(x:Nat):(lArr l tail).setIfInBounds j (.int .i64 (x:Int))=lArr (l.set j x) tail:=by
 unfold lArr
 rw[List.setIfInBounds_toArray,List.set_append_left _ _ (by simpa using h),List.map_set];rfl
structure SR(w W:World)(b:Nat)(l:List Nat)(tail:List Value):Prop where
 gr:w.grownBy W (some b)
 blk:Blk W b 3 (lArr l tail)
section
variable{w W W':World}{b:Nat}{l:List Nat}{tail:List Value}
theorem SR.later(h:SR w W b l tail)(hb:Below W.heap.size W W'):SR w W' b l tail:=
 ⟨⟨hb.os.trans h.gr.os,hb.tape.trans h.gr.tape,hb.output.trans h.gr.output,Nat.le_trans h.gr.size hb.size,λk hk hne=>(hb.block k (Nat.lt_of_lt_of_le hk h.gr.size)).trans (h.gr.block k hk hne)⟩,h.blk.later hb⟩
theorem SR.set(h:SR w W b l tail){j:Nat}(hj:j<l.length)(x:Nat):SR w (W.setCell ⟨b,j,none⟩ (.int .i64 (x:Int))) b (l.set j x) tail:=by
 refine⟨⟨h.gr.os,h.gr.tape,h.gr.output,by have:=h.gr.size;simp[World.setCell];omega,λk hk hne=>?_⟩,?_⟩
 ·exact(Below.heap_setCell W ⟨b,j,none⟩ _ k (λe=>hne (by simp at e;simp[e]))).trans (h.gr.block k hk hne)
 ·have h1:=h.blk.set j (.int .i64 (x:Int))
  rw[lArr_set hj]at h1
  exact h1
end
set_option maxRecDepth 100000 in
set_option maxHeartbeats 4000000 in
theorem insSort_any(g:Nat)(lb:Array Value)(eg:∀args w,(callFunc g args).run Tryz.prog w=.ok (.enter g args) w)(cf:Nat->Nat->Int)(b c:Nat)(l:List Nat)(tail:List Value)(w:World)(hb:Blk w b 3 (lArr l tail))(hl:l.length<=20)
 (htr:∀x y z,cf x y<=0->cf y z<=0->cf x z<=0)(hsym:∀x y,0<=cf x y->cf y x<=0)
 (hc:∀x y W,x∈l->y∈l->w.grownBy W (some b)->Calls Tryz.prog g (#[.int .i64 (x:Int),.int .i64 (y:Int)]++lb) W λe W'=>e=.returned (.int .i64 (cf x y))/\Below W.heap.size W W'):
 Calls Tryz.prog 209 #[.slice (some ⟨b,0,none⟩) l.length c,.int .i64 0,.int .i64 (l.length:Nat),.func (.func g) #[] lb] w λe w'=>e=.returned (.tuple #[])/\∃l',l'.Perm l/\Srt cf l'.length l'/\SR w w' b l' tail:=by
 have Hc:=Lib.hid hc
 have Htr:=Lib.hid htr
 have Hsym:=Lib.hid hsym
 have HS:=Lib.hid (show SR w w b l tail from⟨World.grownBy.refl w _,hb⟩)
 clear hc htr hsym hb
 obtain⟨n,hn⟩:∃n,l.length=n:=⟨_,rfl⟩
 have Hn:=Lib.hid hn
 rw[hn]at hl ⊢
 clear hn
 go_enter Tryz.func209,Tryz.ntmps209
 go_wp2_with fail
 refine lpn (λm a W=>a.defers=[]/\∃(i:Nat)(l1:List Nat),1<=i/\i+m=n+1/\l1.Perm l/\Hid (Srt cf i l1)/\SR w W b l1 tail/\Fits (some (.slice (some ⟨b,0,none⟩) n c)::some (.int .i64 0)::some (.int .i64 (n:Nat))::some (.func (.func g) #[] lb)::none::none::none::none::some (.int .i64 (i:Nat))::none::none::none::none::none::none::none::none::none::none::none::none::none::none::none::none::none::none::none::none::none::none::none::none::none::none::none::none::none::none::none::none::none::none::none::none::none::none::none::none::none::none::none::none::[]) a.tmps.toList) n ?_ ?_
 ·refine⟨rfl,1,l,by omega,by omega,List.Perm.refl _,Lib.hid (λp q x y h1 h2=>by omega),HS.out,?_⟩
  repeat (first|exact ftL|refine ftN ?_|refine ftS ?_)
 clear HS
 intro m a W hI K hK
 obtain⟨hds,i,l1,hi1,him,hp,hsr,hS,hfit⟩:=hI
 obtain⟨f,hf⟩:=ftA hfit
 rw[hds]at hf
 subst hf
 clear hfit hds
 simp only[fillP,Nat.reduceAdd]
 have HS:=Lib.hid hS
 have Hp:=Lib.hid hp
 have Hll:=Lib.hid (show l1.length=n by rw[hp.length_eq];exact Hn.out)
 clear hp
 by_cases hlt:i<n
 ·have i1:(i:Int)<(n:Int):=by omega
  have i3:IntKind.i64.wrap ((i:Int)+1)=(i:Int)+1:=by rw[IntKind.wrap_i64];omega
  clear hS
  go_wp2_with fail
  refine lpn (λr a W=>a.defers=[]/\∃(j:Nat)(l2:List Nat),j<=r/\j<=i/\l2.Perm l/\Hid (Ins cf i j l2)/\SR w W b l2 tail/\Fits (some (.slice (some ⟨b,0,none⟩) n c)::some (.int .i64 0)::some (.int .i64 (n:Nat))::some (.func (.func g) #[] lb)::none::none::none::none::some (.int .i64 (i:Nat))::some (.int .i64 (j:Nat))::none::none::none::none::none::none::none::none::none::none::none::none::none::none::none::none::none::none::none::none::none::none::none::none::none::none::none::none::none::none::none::none::none::none::none::none::none::none::none::none::none::none::none::[]) a.tmps.toList) i ?_ ?_
  ·refine⟨rfl,i,l1,Nat.le_refl _,Nat.le_refl _,Hp.out,Lib.hid (Ins.start hsr.out),HS.out,?_⟩
   repeat (first|exact ftL|refine ftN ?_|refine ftS ?_)
  clear HS Hp Hll hsr
  clear W l1
  intro r a W hI K2 hK2
  obtain⟨hds,j,l2,hjr,hji,hp,hin,hS,hfit⟩:=hI
  obtain⟨f,hf⟩:=ftA hfit
  rw[hds]at hf
  subst hf
  clear hfit hds
  simp only[fillP,Nat.reduceAdd]
  have HS:=Lib.hid hS
  have Hp:=Lib.hid hp
  have Hll:=Lib.hid (show l2.length=n by rw[hp.length_eq];exact Hn.out)
  clear hp
  cases j with
  |zero=>
   have hdone:=Lib.hid (hin.out.done Htr.out (by rw[Hll.out];omega) (λk x y h=>by omega))
   clear hK2 hin hS
   go_wp2_with fail
   refine dag 17 (by kernel_rfl) (by kernel_rfl) (.is ?_::.is ?_::.is ?_::.is ?_::.is ?_::.is ?_::.is ?_::.is ?_::.is ?_::.is ?_::.is ?_::.is ?_::.is ?_::.is ?_::.is ?_::.is ?_::.is ?_::[]) rfl ?st1 ?ob1
   case st1=>simp[Spec.ok]
   case ob1=>
    intro env W' hG
    obtain⟨hc,hf⟩:=bcell hG
    repeat (refine obI ?_ ?_;unfold dsA;go_simp;(try go_bits);(first|(refine⟨brefl _,?_⟩;rfl)|rfl);intro K hK;go_simp;refine hK _ ?_;clear hK K)
    refine obN (λ_=>?_)
    have HS2:=Lib.hid (HS.out.later hG)
    clear hc hf hG
    go_wp2
    refine hK _ _ (m-1) (by omega) ⟨rfl,i+1,l2,by omega,by omega,Hp.out,hdone,HS2.out,?_⟩
    repeat (first|exact ftL|refine ftN ?_|refine ftS ?_)
  |succ k=>
   obtain⟨x,hx⟩:∃x,l2[k+1]? =some x:=⟨_,List.getElem?_eq_getElem (by rw[Hll.out];omega)⟩
   obtain⟨y,hy⟩:∃y,l2[k]? =some y:=⟨_,List.getElem?_eq_getElem (by rw[Hll.out];omega)⟩
   have c0:=(hS.blk.cell (k+1)).trans (lArr_get hx)
   have c1:=(hS.blk.cell k).trans (lArr_get hy)
   have c2:=hS.blk.lt
   have c3:=hS.blk.frozen (k+1)
   have c4:=hS.blk.frozen k
   have hcm:=Hc.out x y
   have i4:IntKind.i64.wrap ((k:Int)+1-1)=(k:Int):=by rw[IntKind.wrap_i64];omega
   have i5:(k:Int)+1<(n:Int):=by omega
   have i6:(k:Int)<(n:Int):=by omega
   have i7:(0:Int)<=(k:Int):=by omega
   have i8:(0:Int)<=(k:Int)+1:=by omega
   have i9:((k:Int)+1).toNat=k+1:=by omega
   have i10:(0:Int)<(k:Int)+1:=by omega
   have HS:=Lib.hid hS
   have Hcm:=Lib.hid (λW(h:w.grownBy W (some b))=>Hc.out x y W ((Hp.out.mem_iff).1 (List.mem_of_getElem? hx)) ((Hp.out.mem_iff).1 (List.mem_of_getElem? hy)) h)
   have Hx:=Lib.hid hx
   have Hy:=Lib.hid hy
   have Hin:=Lib.hid hin.out
   clear hS hin hx hy hcm
   cases hd:decide (cf x y<0)with
   |true=>
    have Hd:=Lib.hid (of_decide_eq_true hd)
    go_wp2_with fail
    refine dag 17 (by kernel_rfl) (by kernel_rfl) (.is ?_::.is ?_::.is ?_::.is ?_::.is ?_::.is ?_::.is ?_::.is ?_::.is ?_::.is ?_::.is ?_::.is ?_::.is ?_::.is ?_::.is ?_::.is ?_::.is ?_::[]) rfl ?st2 ?ob2
    case st2=>simp[Spec.ok]
    case ob2=>
     intro env W' hG
     obtain⟨hc,hf⟩:=bcell hG
     iterate 14 (refine obI ?_ ?_;unfold dsA;go_simp;(try go_bits);(first|(refine⟨brefl _,?_⟩;rfl)|rfl);intro K hK;go_simp;refine hK _ ?_;clear hK K)
     refine obI ?_ ?_
     ·unfold dsA
      go_simp
      refine(Hcm.out W' (HS.out.later hG).gr).mono ?_
      rintro e w1⟨rfl,hb1⟩
      refine⟨?_,hb1⟩
      rfl
     intro K hK
     go_simp
     refine hK _ ?_
     clear hK K
     repeat (refine obI ?_ ?_;unfold dsA;go_simp;(try go_bits);(first|(refine⟨brefl _,?_⟩;rfl)|rfl);intro K hK;go_simp;refine hK _ ?_;clear hK K)
     refine obN (λ_=>?_)
     have hS2:=HS.out.later hG
     have d0:=(hS2.blk.cell (k+1)).trans (lArr_get Hx.out)
     have d1:=(hS2.blk.cell k).trans (lArr_get Hy.out)
     have d2:=hS2.blk.lt
     have d3:=hS2.blk.frozen (k+1)
     have d4:=hS2.blk.frozen k
     have hS3:=(hS2.set (j:=k+1) (by rw[Hll.out];omega) y).set (j:=k) (by simp;rw[Hll.out];omega) x
     have HS3:=Lib.hid hS3
     clear hc hf hG hS2 hS3 c0 c1 c2 c3 c4
     go_wp2_with fail
     go_region
     go_wp2
     refine hK2 _ _ k (by omega) ⟨rfl,k,_,Nat.le_refl _,by omega,(swapL_perm Hx.out Hy.out).trans Hp.out,Lib.hid (Hin.out.swap (λx y h=>by omega) (by omega) Hx.out Hy.out Hd.out),HS3.out.later (brefl _).drew,?_⟩
     repeat (first|exact ftL|refine ftN ?_|refine ftS ?_)
   |false=>
    have Hd:=Lib.hid (of_decide_eq_false hd)
    have hdone:=Lib.hid (Hin.out.done Htr.out (by rw[Hll.out];omega) (λk' x' y' h hx' hy'=>by
     obtain rfl:k'=k:=by omega
     rw[Hx.out]at hx';rw[Hy.out]at hy'
     cases hx';cases hy'
     have:=Hd.out
     exact Hsym.out _ _ (by omega)))
    clear hK2
    go_wp2_with fail
    refine dag 17 (by kernel_rfl) (by kernel_rfl) (.is ?_::.is ?_::.is ?_::.is ?_::.is ?_::.is ?_::.is ?_::.is ?_::.is ?_::.is ?_::.is ?_::.is ?_::.is ?_::.is ?_::.is ?_::.is ?_::.is ?_::[]) rfl ?st3 ?ob3
    case st3=>simp[Spec.ok]
    case ob3=>
     intro env W' hG
     obtain⟨hc,hf⟩:=bcell hG
     iterate 14 (refine obI ?_ ?_;unfold dsA;go_simp;(try go_bits);(first|(refine⟨brefl _,?_⟩;rfl)|rfl);intro K hK;go_simp;refine hK _ ?_;clear hK K)
     refine obI ?_ ?_
     ·unfold dsA
      go_simp
      refine(Hcm.out W' (HS.out.later hG).gr).mono ?_
      rintro e w1⟨rfl,hb1⟩
      refine⟨?_,hb1⟩
      rfl
     intro K' hK'
     go_simp
     refine hK' _ ?_
     clear hK' K'
     repeat (refine obI ?_ ?_;unfold dsA;go_simp;(try go_bits);(first|(refine⟨brefl _,?_⟩;rfl)|rfl);intro K hK;go_simp;refine hK _ ?_;clear hK K)
     refine obN (λ_=>?_)
     have HS2:=Lib.hid (HS.out.later hG)
     clear hc hf hG
     go_wp2
     refine hK _ _ (m-1) (by omega) ⟨rfl,i+1,l2,by omega,by omega,Hp.out,hdone,HS2.out,?_⟩
     repeat (first|exact ftL|refine ftN ?_|refine ftS ?_)
 ·have hin:n<=i:=by omega
  have HE:=Lib.hid (show Srt cf l1.length l1 fromλp q x y h1 h2=>hsr.out p q x y h1 (by rw[Hll.out]at h2;omega))
  clear hK hS
  go_wp2
  go_end0
  exact⟨rfl,l1,Hp.out,HE.out,HS.out⟩
set_option maxRecDepth 100000 in
set_option maxHeartbeats 4000000 in
theorem stableCmp_any(g:Nat)(lb:Array Value)(eg:∀args w,(callFunc g args).run Tryz.prog w=.ok (.enter g args) w)(cf:Nat->Nat->Int)(b c:Nat)(l:List Nat)(tail:List Value)(w:World)(hb:Blk w b 3 (lArr l tail))(hl:l.length<20)
 (htr:∀x y z,cf x y<=0->cf y z<=0->cf x z<=0)(hsym:∀x y,0<=cf x y->cf y x<=0)
 (hc:∀x y W,x∈l->y∈l->w.grownBy W (some b)->Calls Tryz.prog g (#[.int .i64 (x:Int),.int .i64 (y:Int)]++lb) W λe W'=>e=.returned (.int .i64 (cf x y))/\Below W.heap.size W W'):
 Calls Tryz.prog 111 #[.slice (some ⟨b,0,none⟩) l.length c,.int .i64 (l.length:Nat),.func (.func g) #[] lb] w λe w'=>e=.returned (.tuple #[])/\∃l',l'.Perm l/\Srt cf l'.length l'/\SR w w' b l' tail:=by
 have H:=Lib.hid (insSort_any g lb eg cf b c l tail w hb (by omega) htr hsym hc)
 obtain⟨n,hn⟩:∃n,l.length=n:=⟨_,rfl⟩
 rw[hn]at hl H ⊢
 have i1:(n:Int)<20:=by omega
 have i2:¬(20:Int)<=(n:Int):=by omega
 have i3:¬(20:Int)<(n:Int):=by omega
 clear hb hc htr hsym hn
 go_enter Tryz.func111,Tryz.ntmps111
 go_wp2_with fail
 refine wp_loop_rounds 1 ?_
 rw[rounds_succ]
 go_wp2_with fail
 refine H.out.mono ?_
 rintro e w1⟨rfl,hR⟩
 have HR:=Lib.hid hR
 clear hR
 go_wp2_with fail
 refine wp_loop_rounds 1 ?_
 rw[rounds_succ]
 go_wp2
 go_end0
 exact⟨rfl,HR.out⟩
set_option maxHeartbeats 4000000 in
theorem sortStable_any(g:Nat)(lb:Array Value)(eg:∀args w,(callFunc g args).run Tryz.prog w=.ok (.enter g args) w)(cf:Nat->Nat->Int)(b c:Nat)(l:List Nat)(tail:List Value)(w:World)(hb:Blk w b 3 (lArr l tail))(hl:l.length<20)
 (htr:∀x y z,cf x y<=0->cf y z<=0->cf x z<=0)(hsym:∀x y,0<=cf x y->cf y x<=0)
 (hc:∀x y W,x∈l->y∈l->w.grownBy W (some b)->Calls Tryz.prog g (#[.int .i64 (x:Int),.int .i64 (y:Int)]++lb) W λe W'=>e=.returned (.int .i64 (cf x y))/\Below W.heap.size W W'):
 Calls Tryz.prog 44 #[.slice (some ⟨b,0,none⟩) l.length c,.func (.func g) #[] lb] w λe w'=>e=.returned (.tuple #[])/\∃l',l'.Perm l/\Srt cf l'.length l'/\SR w w' b l' tail:=by
 have H:=Lib.hid (stableCmp_any g lb eg cf b c l tail w hb hl htr hsym hc)
 clear hb hc htr hsym
 go_enter Tryz.func44,Tryz.ntmps44
 go_wp2_with fail
 refine H.out.mono ?_
 rintro e w1⟨rfl,hR⟩
 have HR:=Lib.hid hR
 clear hR
 go_wp2
 go_end0
 exact⟨rfl,HR.out⟩
set_option maxHeartbeats 1000000 in
theorem insSort_nil(f:Value)(w:World):
 Calls Tryz.prog 209 #[.slice none 0 0,.int .i64 0,.int .i64 0,f] w λe w'=>e=.returned (.tuple #[])/\Below w.heap.size w w':=by
 go_enter Tryz.func209,Tryz.ntmps209
 go_wp2_with fail
 refine wp_loop_rounds 1 ?_
 rw[rounds_succ]
 go_wp2
 go_end0
 exact⟨rfl,brefl _⟩
set_option maxHeartbeats 1000000 in
theorem stableCmp_nil(f:Value)(w:World):
 Calls Tryz.prog 111 #[.slice none 0 0,.int .i64 0,f] w λe w'=>e=.returned (.tuple #[])/\Below w.heap.size w w':=by
 go_enter Tryz.func111,Tryz.ntmps111
 go_wp2_with fail
 refine wp_loop_rounds 1 ?_
 rw[rounds_succ]
 go_wp2_with fail
 refine(insSort_nil f _).mono ?_
 rintro e w1⟨rfl,hR⟩
 have HR:=Lib.hid hR
 clear hR
 go_wp2_with fail
 refine wp_loop_rounds 1 ?_
 rw[rounds_succ]
 go_wp2
 go_end0
 exact⟨rfl,HR.out⟩
set_option maxHeartbeats 1000000 in
theorem sortStable_nil(f:Value)(w:World):
 Calls Tryz.prog 44 #[.slice none 0 0,f] w λe w'=>e=.returned (.tuple #[])/\Below w.heap.size w w':=by
 go_enter Tryz.func44,Tryz.ntmps44
 go_wp2_with fail
 refine(stableCmp_nil f _).mono ?_
 rintro e w1⟨rfl,hR⟩
 have HR:=Lib.hid hR
 clear hR
 go_wp2
 go_end0
 exact⟨rfl,HR.out⟩
end Go.Proofs.YtifehdoghfnhoaaGreatDoor
namespace Go.Proofs.YtifehdoghfnhoaaGreatDoor
open Go.RowKit Go.Shelf
theorem info_int:(Tryz.prog.info? 3).map (λi=>(i.zero,i.size,i.bytes))=some (some (.int .i64 0),1,8):=by kernel_rfl
theorem info_long:(Tryz.prog.info? 2).map (λi=>(i.zero,i.size,i.bytes))=some (some (.int .i64 0),1,8):=by kernel_rfl
theorem info_rg:(Tryz.prog.info? 34).map (λi=>(i.zero,i.size,i.bytes))=some (some (.agg #[.int .i64 0,.int .i64 0]),2,16):=by kernel_rfl
theorem und_ints:Tryz.prog.underlying 43=some (.slice 3):=by kernel_rfl
theorem und_longs:Tryz.prog.underlying 40=some (.slice 2):=by kernel_rfl
theorem und_rgs:Tryz.prog.underlying 28=some (.slice 34):=by kernel_rfl
theorem one_new(w:World)(x:Value)(t:TypeId):∀j u,[x][j]? =some u->(w.alloc (.cells #[x] t)).cell? ((⟨w.heap.size,0,none⟩:Addr).add j)=some u:=by
 intro j u hu
 have hadd:(⟨w.heap.size,0,none⟩:Addr).add j=⟨w.heap.size,j,none⟩:=by unfold Addr.add;split<;>simp_all
 rw[hadd,(Blk.new w t #[x]).cell]
 simpa using hu
def numArr(n:Nat)(M:Nat->Int):Array Value:=((List.range n).map (λj=>Value.int .i64 (M j))).toArray
theorem numArr_get{n:Nat}{M:Nat->Int}{j:Nat}(h:j<n):(numArr n M)[j]? =some (.int .i64 (M j)):=by simp[numArr,h]
theorem numArr_set{n:Nat}{M:Nat->Int}(j:Nat)(v:Int):(numArr n M).setIfInBounds j (.int .i64 v)=numArr n (updN M j v):=by
 simp only[numArr,List.setIfInBounds_toArray]
 congr 1
 apply List.ext_getElem
 ·simp
 ·intro i h1 h2
  simp only[List.getElem_map,List.getElem_range,List.getElem_set]
  by_cases e:i=j
  ·simp[updN,e]
  ·rw[if_neg (λh=>e h.symm)];simp[updN,e]
theorem numArr_made(n:Nat):madeCells #[Value.int .i64 0] n=numArr n (λ_=>0):=by
 apply Array.ext
 ·simp[madeCells,numArr]
 ·intro i h1 h2
  simp[madeCells,numArr,Nat.mod_one]
theorem make_longs(n:Nat)(hn:n<=1000)(W:World):
 (Instr.makeSlice 40 (.int .i64 (n:Int)) (.int .i64 (n:Int))).run Tryz.prog W=.ok (.slice (some ⟨W.heap.size,0,none⟩) n n) (W.alloc (.cells (numArr n (λ_=>0)) 2)):=by
 have h:=run_make_row' (P:=Tryz.prog) 40 2 (.int .i64 0) 8 (by kernel_rfl) info_long rfl .i64 .i64 n (by omega) (by omega) W
 rw[numArr_made]at h
 exact_mod_cast h
section
variable{W W':World}{base n size base' n' size':Nat}{e e':TypeId}{v v':Value}{xs xs':List Value}
theorem own_base(h:W.ownsRow base e size v n xs):∀g,v.ownBlock=some g->base<=g:=by
 intro g hg
 rcases h.2 with⟨rfl,_⟩|⟨g',cap,cur,rfl,hb,_⟩
 ·cases hg
 ·simp only[Value.ownBlock,Option.some.injEq]at hg
  omega
theorem own_lt(h:W.ownsRow base e size v n xs):∀g,v.ownBlock=some g->g<W.heap.size:=by
 intro g hg
 rcases h.2 with⟨rfl,_⟩|⟨g',cap,cur,rfl,_,hb,_⟩
 ·cases hg
 ·simp only[Value.ownBlock,Option.some.injEq]at hg
  subst hg
  exact(Array.getElem?_eq_some_iff.1 hb).1
theorem own_apart(h:W.ownsRow base e size v n xs)(h':W.ownsRow base' e' size' v' n' xs')(he:e≠e'):∀g,v.ownBlock=some g->v'.ownBlock≠some g:=by
 intro g hg hg'
 rcases h.2 with⟨rfl,_⟩|⟨g1,cap,cur,rfl,_,hb,_⟩
 ·cases hg
 ·rcases h'.2 with⟨rfl,_⟩|⟨g2,cap2,cur2,rfl,_,hb2,_⟩
  ·cases hg'
  ·simp only[Value.ownBlock,Option.some.injEq]at hg hg'
   subst hg hg'
   rw[hb]at hb2
   simp at hb2
   exact he hb2.2
theorem own_grown{row:Option Nat}(h:W.ownsRow base e size v n xs)(hg:W.grownBy W' row)(hne:∀g,v.ownBlock=some g->row≠some g):W'.ownsRow base e size v n xs:=by
 refine⟨h.1,?_⟩
 rcases h.2 with hn|⟨g,cap,cur,rfl,h1,hb,h2⟩
 ·exact .inl hn
 ·exact .inr ⟨g,cap,cur,rfl,h1,(hg.block g (Array.getElem?_eq_some_iff.1 hb).1 (λe=>hne g rfl e.symm)).trans hb,h2⟩
theorem own_low{b:Nat}(h:W.ownsRow b e size v n xs)(hb:base<=b):W.ownsRow base e size v n xs:=by
 refine⟨h.1,?_⟩
 rcases h.2 with hn|⟨g,cap,cur,rfl,h1,h2⟩
 ·exact .inl hn
 ·exact .inr ⟨g,cap,cur,rfl,Nat.le_trans hb h1,h2⟩
end
def LeftV(W:World)(base:Nat)(l:List Nat)(v:Value):Prop:=
 (l=[]/\v=.slice none 0 0)\/∃g cap tail,v=.slice (some ⟨g,0,none⟩) l.length cap/\(base<=g/\l.length<=cap)/\Blk W g 3 (lArr l tail)
theorem LeftV.later{W W':World}{base:Nat}{l:List Nat}{v:Value}(h:LeftV W base l v)(hb:Below W.heap.size W W'):LeftV W' base l v:=by
 rcases h with h|⟨g,cap,tail,h1,h2,h3⟩
 ·exact .inl h
 ·exact .inr ⟨g,cap,tail,h1,h2,h3.later hb⟩
theorem LeftV.grown{W W':World}{base:Nat}{l:List Nat}{v:Value}{row:Option Nat}(h:LeftV W base l v)(hg:W.grownBy W' row)(hne:∀g,v.ownBlock=some g->row≠some g):LeftV W' base l v:=by
 rcases h with h|⟨g,cap,tail,rfl,h2,h3⟩
 ·exact .inl h
 ·exact .inr ⟨g,cap,tail,rfl,h2,h3.grown hg (hne g rfl)⟩
theorem LeftV.own{W:World}{base:Nat}{l:List Nat}{v:Value}(h:W.ownsRow base 3 1 v l.length (l.map encN)):LeftV W base l v:=by
 rcases h.2 with⟨rfl,h0⟩|⟨g,cap,cur,rfl,h1,hg,hc,_,_,ht⟩
 ·exact .inl ⟨List.eq_nil_of_length_eq_zero h0,rfl⟩
 ·refine .inr ⟨g,cap,cur.toList.drop l.length,rfl,⟨h1,hc⟩,?_⟩
  unfold Blk
  rw[hg]
  congr 2
  unfold lArr
  rw[Nat.mul_one]at ht
  rw[<-ht,List.take_append_drop]
theorem LeftV.at_{W:World}{base:Nat}{l:List Nat}{v:Value}(h:LeftV W base l v){i:Nat}(hi:i<l.length):∃g cap x,v=.slice (some ⟨g,0,none⟩) l.length cap/\base<=g/\g<W.heap.size/\l[i]? =some x/\W.cell? ⟨g,i,none⟩=some (.int .i64 (x:Int)):=by
 rcases h with⟨rfl,_⟩|⟨g,cap,tail,rfl,h2,h3⟩
 ·simp at hi
 ·have hx:=List.getElem?_eq_getElem hi
  exact⟨g,cap,_,rfl,h2.1,h3.lt,hx,(h3.cell i).trans (lArr_get hx)⟩
end Go.Proofs.YtifehdoghfnhoaaGreatDoor
