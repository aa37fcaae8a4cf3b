/- clip.open: the table of a ribbon and of kinds, or the error. -/
import Derived.Test.YtpbcmkebdcejkaaGreatDoorZCNew
import Derived.Laws.EntriesVeiled
namespace Go.Proofs.YtpbcmkebdcejkaaGreatDoor.C
open Go.RowKit Go.Shelf
attribute [local go_sem] Oper.semAt_some
set_option maxHeartbeats 400000 in
theorem best_two(b:Nat)(x y:Int)(w:World)(hb:b<w.heap.size)(h0:w.cell? ⟨b,0,none⟩=some (.int .i64 x))(h1:w.cell? ⟨b,1,none⟩=some (.int .i64 y)):
 Calls Tryz.prog 124 #[.slice (some ⟨b,0,none⟩) 2 2,.func (.func 123) #[] #[]] w λe w'=>e=.returned (.int .i64 (mx x y))/\Below w.heap.size w w':=by
 by_cases hlt:x<y
 ·have HM:=Lib.hid (show mx x y=y by simp[mx,hlt])
  have hd:decide (x<y)=true:=by simpa using hlt
  go_enter Tryz.func124,Tryz.ntmps124
  go_wp2
  go_loopw [5,14] (λv i wr=>wr=w/\((i=.int .i64 0/\v=.int .i64 x)\/(i=.int .i64 1/\v=.int .i64 y))) (λ_ i _=>(1-intOf i).toNat)
  case atStart=>exact⟨rfl,.inl ⟨rfl,rfl⟩⟩
  case round=>
   obtain⟨rfl,⟨rfl,rfl⟩|⟨rfl,rfl⟩⟩:=hrel
   ·go_wp2
    go_roundw
    case rel=>exact⟨trivial,.inr ⟨rfl,rfl⟩⟩
    case measure=>simp[intOf]
   ·go_wp2
    go_ret
    exact⟨ret_int HM.out.symm,brefl _⟩
 ·have HM:=Lib.hid (show mx x y=x by simp[mx,hlt])
  have hd:decide (x<y)=false:=by simpa using hlt
  go_enter Tryz.func124,Tryz.ntmps124
  go_wp2
  go_loopw [5,14] (λv i wr=>wr=w/\v=.int .i64 x/\(i=.int .i64 0\/i=.int .i64 1)) (λ_ i _=>(1-intOf i).toNat)
  case atStart=>exact⟨rfl,rfl,.inl rfl⟩
  case round=>
   obtain⟨rfl,rfl,rfl|rfl⟩:=hrel
   ·go_wp2
    go_roundw
    case rel=>exact⟨trivial,rfl,.inr rfl⟩
    case measure=>simp[intOf]
   ·go_wp2
    go_ret
    exact⟨ret_int HM.out.symm,brefl _⟩
theorem run_clear_same{P:Program}(t e:TypeId)(g o n c:Nat)(et:TypeId)(cur:Array Value)(W:World)(hg:W.heap[g]? =some (.cells cur et (0,0))) (hn:0<n) (ht:P.underlying t=some (.slice e)) (hz:∀w,(zeroValue e).run P w=.ok (.int .i64 0) w)
 (hcur:cur.toList.take o++List.replicate n (.int .i64 0)++cur.toList.drop (o+n)=cur.toList) (hsz:o+n<=cur.size):
 (Builtin.clear_ #[t] 0 #[.slice (some ⟨g,o,none⟩) n c]).run P W=.ok (.tuple #[]) W:=by
 obtain⟨m,rfl⟩:∃m,n=m+1:=⟨n-1,by omega⟩
 have hzc:(Builtin.zeroCells (Value.int .i64 0).cells (m+1)).toList=List.replicate (m+1) (Value.int .i64 0):=by
  apply List.ext_getElem
  ·simp[Builtin.zeroCells,Value.cells]
  ·intro i h1 h2
   simp[Builtin.zeroCells,Value.cells,Nat.mod_one]
 have hst:=run_storeCells_at (P:=P) g o et (List.replicate (m+1) (.int .i64 0)) 0 cur W hg (by simpa using hsz) (by intro v hv;rw[List.eq_of_mem_replicate hv];rfl)
 simp only[Nat.add_zero,List.length_replicate,hcur,Array.toArray_toList]at hst
 rw[setRow_self W g cur et (0,0) hg]at hst
 simp[Builtin.clear_,run_underlying ht,hz,hzc,hst]
structure NT(w W:World)(L:Nat)(fv kv:Value)(F A Bh:Nat->Int):Prop where
 bel:Below w.heap.size w W
 b0:Blk W w.heap.size 24 #[.int .i64 L,fv]
 b1:Blk W (w.heap.size+1) 36 #[kv]
 b2:Blk W (w.heap.size+1+1) 51 (tabArr (.int .i64 L) fv kv F A Bh)
 b3:Blk W (w.heap.size+1+1+1) 44 #[.pointer (some ⟨w.heap.size+1+1,0,none⟩)]
section
variable{w W W':World}{L:Nat}{fv kv:Value}{F A Bh:Nat->Int}
theorem NT.later(h:NT w W L fv kv F A Bh)(hb:Below W.heap.size W W'):NT w W' L fv kv F A Bh:=
 ⟨Below.later h.bel hb,h.b0.later hb,h.b1.later hb,h.b2.later hb,h.b3.later hb⟩
theorem NT.kept{B:Nat}(h:NT w W L fv kv F A Bh)(hk:Kept B W W')(hB:w.heap.size<=B):NT w W' L fv kv F A Bh:=
 ⟨h.bel.trans ⟨hk.os,hk.tape,hk.output,hk.size,λi hi=>hk.low i (by omega) (by have:=h.bel.size;omega)⟩,h.b0.kept hk,h.b1.kept hk,h.b2.kept hk,h.b3.kept hk⟩
theorem NT.setF(h:NT w W L fv kv F A Bh){j:Nat}(hj:j<25)(v:Int):NT w (W.setCell ⟨w.heap.size+1+1,3+j,none⟩ (.int .i64 v)) L fv kv (upd F j v) A Bh:=
 ⟨h.bel.setCell (by show w.heap.size<=w.heap.size+1+1;omega) _,h.b0.other (by show w.heap.size+1+1≠_;omega) _,h.b1.other (by show w.heap.size+1+1≠_;omega) _,by have:=h.b2.set (3+j) (.int .i64 v);rwa[tabArr_setF hj]at this,h.b3.other (by show w.heap.size+1+1≠_;omega) _⟩
theorem NT.setA(h:NT w W L fv kv F A Bh){j:Nat}(hj:j<25)(v:Int):NT w (W.setCell ⟨w.heap.size+1+1,28+j,none⟩ (.int .i64 v)) L fv kv F (upd A j v) Bh:=
 ⟨h.bel.setCell (by show w.heap.size<=w.heap.size+1+1;omega) _,h.b0.other (by show w.heap.size+1+1≠_;omega) _,h.b1.other (by show w.heap.size+1+1≠_;omega) _,by have:=h.b2.set (28+j) (.int .i64 v);rwa[tabArr_setA hj]at this,h.b3.other (by show w.heap.size+1+1≠_;omega) _⟩
theorem NT.setB(h:NT w W L fv kv F A Bh){j:Nat}(hj:j<25)(v:Int):NT w (W.setCell ⟨w.heap.size+1+1,53+j,none⟩ (.int .i64 v)) L fv kv F A (upd Bh j v):=
 ⟨h.bel.setCell (by show w.heap.size<=w.heap.size+1+1;omega) _,h.b0.other (by show w.heap.size+1+1≠_;omega) _,h.b1.other (by show w.heap.size+1+1≠_;omega) _,by have:=h.b2.set (53+j) (.int .i64 v);rwa[tabArr_setB hj]at this,h.b3.other (by show w.heap.size+1+1≠_;omega) _⟩
theorem NT.cells(h:NT w W L fv kv F A Bh):W.cell? ⟨w.heap.size,0,none⟩=some (.int .i64 L)/\W.cell? ⟨w.heap.size,1,none⟩=some fv/\W.cell? ⟨w.heap.size+1,0,none⟩=some kv/\
 W.cell? ⟨w.heap.size+1+1+1,0,none⟩=some (.pointer (some ⟨w.heap.size+1+1,0,none⟩))/\w.heap.size+1+1+1<W.heap.size:=
 ⟨h.b0.cell 0,h.b0.cell 1,h.b1.cell 0,h.b3.cell 0,h.b3.lt⟩
end
theorem NT.tabC{w W:World}{L:Nat}{FA:Option Addr}{fn fc:Nat}{KA:Option Addr}{kc:Nat}{ks:List Kd}{F A Bh:Nat->Int}(h:NT w W L (.slice FA fn fc) (.slice KA ks.length kc) F A Bh)(hks:Sl 3 encK w w.heap.size KA ks.length kc ks):
 TabC W W.heap.size (w.heap.size+1+1) L FA fn fc KA kc ks F:=
 ⟨h.b2.lt,h.b2.cell 0,h.b2.cell 1,h.b2.cell 2,hks.later h.bel,λj hj=>by rw[h.b2.cell,tabArr_F hj]⟩
theorem kinds_ne{w:World}{KA:Option Addr}{kc:Nat}{ks:List Kd}(hk:KOk ks)(hks:Sl 3 encK w w.heap.size KA ks.length kc ks):∀b o,KA=some ⟨b,o,none⟩->b≠w.heap.size+1+1:=by
 intro b o h
 obtain⟨b',o',hA,hB,_⟩:=hks.at_ (by have:=hk.1;omega)
 rw[h]at hA;cases hA;omega
def KeepD(W0 W:World):Prop:=∀k:Nat,∀c,W0.heap[k]? =some (.deferred c)->W.heap[k]? =some (.deferred c)
theorem KeepD.refl(W:World):KeepD W W:=λ_ _ h=>h
theorem KeepD.later{W0 W W':World}(h:KeepD W0 W)(hb:Below W.heap.size W W'):KeepD W0 W':=λk c hk=>(hb.block k (Array.getElem?_eq_some_iff.1 (h k c hk)).1).trans (h k c hk)
theorem KeepD.set{W0 W:World}(h:KeepD W0 W)(p:Addr)(u:Value):KeepD W0 (W.setCell p u):=by
 intro k c hk
 have h1:=h k c hk
 by_cases e:k=p.block
 ·subst e
  simp[World.setCell,Array.getElem?_modify,h1]
 ·exact(Below.heap_setCell W p u k e).trans h1
theorem KeepD.kept{W0 W W':World}(h:KeepD W0 W)(hk:Kept W0.heap.size W W'):KeepD W0 W':=λk c hc=>(hk.low k (Array.getElem?_eq_some_iff.1 hc).1 (Array.getElem?_eq_some_iff.1 (h k c hc)).1).trans (h k c hc)
def LoopA(w:World)(L M:Nat)(fv kv:Value)(ks:List Kd)(F:Nat->Int)(n:Nat)(a:Act)(W:World):Prop:=
 ∃i,i+n=L/\Fits (none::none::some (.pointer (some ⟨w.heap.size,0,none⟩))::some (.pointer (some ⟨w.heap.size+1,0,none⟩))::none::some (.pointer (some ⟨w.heap.size+1+1+1,0,none⟩))::none::some (.pointer (some ⟨M,0,none⟩))::none::none::none::none::none::none::none::none::none::none::none::none::none::none::none::none::none::none::none::none::none::none::none::none::none::none::none::none::none::none::none::none::none::none::none::none::none::none::none::none::none::none::none::none::none::none::none::some (.int .i64 (L:Nat))::some (.int .i64 (i:Nat))::none::none::none::none::none::none::none::none::none::none::none::none::none::none::none::none::none::none::none::none::none::none::none::none::none::none::none::none::none::none::none::none::none::none::none::none::none::none::none::none::none::none::none::none::none::none::none::none::none::none::none::none::none::none::none::none::none::none::none::none::none::none::none::none::none::none::none::none::none::none::none::none::none::none::none::none::none::none::none::none::none::none::none::none::none::none::none::none::none::none::none::none::none::none::none::none::none::none::none::none::none::none::none::none::none::none::none::none::none::none::none::none::none::none::none::none::none::[]) a.tmps.toList/\Marks w.heap.size W a.defers/\NT w W L fv kv F (aheadAt L F ks i) (λ_=>0)/\Blk W M 182 #[.func (.func 123) #[] #[]]/\w.heap.size<=M
def LoopB(w:World)(L M:Nat)(fv kv:Value)(ks:List Kd)(F A:Nat->Int)(n:Nat)(a:Act)(W:World):Prop:=
 ∃i,i+n=L/\Fits (none::none::some (.pointer (some ⟨w.heap.size,0,none⟩))::some (.pointer (some ⟨w.heap.size+1,0,none⟩))::none::some (.pointer (some ⟨w.heap.size+1+1+1,0,none⟩))::none::some (.pointer (some ⟨M,0,none⟩))::none::none::none::none::none::none::none::none::none::none::none::none::none::none::none::none::none::none::none::none::none::none::none::none::none::none::none::none::none::none::none::none::none::none::none::none::none::none::none::none::none::none::none::none::none::none::none::none::none::none::none::none::none::none::none::none::none::none::none::none::none::none::none::none::none::none::none::none::none::none::none::none::none::none::none::none::none::none::none::none::none::none::none::none::none::none::none::none::none::none::none::none::none::none::none::none::none::none::none::none::none::none::none::none::none::none::none::none::none::none::some (.int .i64 (L:Nat))::some (.int .i64 (i:Nat))::none::none::none::none::none::none::none::none::none::none::none::none::none::none::none::none::none::none::none::none::none::none::none::none::none::none::none::none::none::none::none::none::none::none::none::none::none::none::none::none::none::none::none::none::none::none::none::none::none::none::none::none::none::none::[]) a.tmps.toList/\Marks w.heap.size W a.defers/\NT w W L fv kv F A (behindAt L F ks i)/\Blk W M 182 #[.func (.func 123) #[] #[]]/\w.heap.size<=M
set_option maxRecDepth 100000 in
set_option maxHeartbeats 2000000 in
theorem newTable_any(L:Nat)(FA:Option Addr)(fn fc:Nat)(fs:List Int)(KA:Option Addr)(kc:Nat)(ks:List Kd)(w:World)(hL1:1<=L)(hL:L<=24)(hk:KOk ks)
 (hfs:Sl 1 encI w w.heap.size FA fn fc fs)(hks:Sl 3 encK w w.heap.size KA ks.length kc ks):
 Calls Tryz.prog 45 #[.agg #[.int .i64 L,.slice FA fn fc],.slice KA ks.length kc] w λe w'=>∃T,w.heap.size<=T/\e=.returned (.pointer (some ⟨T,0,none⟩))/\Below w.heap.size w w'/\
  Tab w' w'.heap.size T L FA fn fc KA kc ks (Fst fs L) (aheadAt L (Fst fs L) ks L) (behindAt L (Fst fs L) ks L):=by
 have Hfs:=Lib.hid hfs
 have Hks:=Lib.hid hks
 have Hk:=Lib.hid hk
 clear hfs hks hk
 refine calls_of_marks Tryz.func45 rfl ?_
 simp only[Tryz.ntmps45,List.size_toArray,List.length_cons,List.length_nil,Nat.reduceAdd,Nat.reduceSub,Array.replicate_succ,Array.replicate_zero,List.push_toArray,List.append_toArray,List.nil_append,List.cons_append]
 have hz0:((Tryz.zeroCells51.setIfInBounds 0 (Value.int IntKind.i64 L)).setIfInBounds 1 (Value.slice FA fn fc)).setIfInBounds 2 (Value.slice KA ks.length kc)=tabArr (.int .i64 L) (.slice FA fn fc) (.slice KA ks.length kc) (λ_=>0) (λ_=>0) (λ_=>0):=by
  rfl
 have hNT:NT w ((((w.alloc (Obj.cells #[Value.int IntKind.i64 L,Value.slice FA fn fc] 24)).alloc (Obj.cells #[Value.slice KA ks.length kc] 36)).alloc (Obj.cells (((Tryz.zeroCells51.setIfInBounds 0 (Value.int IntKind.i64 L)).setIfInBounds 1 (Value.slice FA fn fc)).setIfInBounds 2 (Value.slice KA ks.length kc)) 51)).alloc (Obj.cells #[Value.pointer (some ⟨w.heap.size+1+1,0,none⟩)] 44)) L (.slice FA fn fc) (.slice KA ks.length kc) (λ_=>0) (λ_=>0) (λ_=>0):=by
  rw[hz0]
  have s1:=World.size_alloc w (Obj.cells #[Value.int IntKind.i64 L,Value.slice FA fn fc] 24)
  have s2:=World.size_alloc (w.alloc (Obj.cells #[Value.int IntKind.i64 L,Value.slice FA fn fc] 24)) (Obj.cells #[Value.slice KA ks.length kc] 36)
  refine⟨balloc (balloc (balloc (balloc (brefl w) _) _) _) _,(((Blk.new w _ _).alloc _).alloc _).alloc _,?_,?_,?_⟩
  ·have:=((Blk.new (w.alloc (Obj.cells #[Value.int IntKind.i64 L,Value.slice FA fn fc] 24)) 36 #[Value.slice KA ks.length kc]))
   rw[s1]at this
   exact(this.alloc _).alloc _
  ·have:=Blk.new ((w.alloc (Obj.cells #[Value.int IntKind.i64 L,Value.slice FA fn fc] 24)).alloc (Obj.cells #[Value.slice KA ks.length kc] 36)) 51 (tabArr (.int .i64 L) (.slice FA fn fc) (.slice KA ks.length kc) (λ_=>0) (λ_=>0) (λ_=>0))
   rw[s2,s1]at this
   exact this.alloc _
  ·have:=Blk.new (((w.alloc (Obj.cells #[Value.int IntKind.i64 L,Value.slice FA fn fc] 24)).alloc (Obj.cells #[Value.slice KA ks.length kc] 36)).alloc (Obj.cells (tabArr (.int .i64 L) (.slice FA fn fc) (.slice KA ks.length kc) (λ_=>0) (λ_=>0) (λ_=>0)) 51)) 44 #[Value.pointer (some ⟨w.heap.size+1+1,0,none⟩)]
   rw[World.size_alloc,s2,s1]at this
   exact this
 have hclr:=run_clear_same (P:=Tryz.prog) 22 3 (w.heap.size+1+1) 3 25 25 51 _ _ hNT.b2 (by omega) Tryz.underlying22 (λw=>Tryz.zeroValue3 w) (by rfl) (by rw[tabArr_size];omega)
 have HNT:=Lib.hid hNT
 clear hNT hz0
 go_wp2_with fail
 go_loopw [23] (λi wr=>∃k:Nat,k<=L/\i=.int .i64 k/\NT w wr L (.slice FA fn fc) (.slice KA ks.length kc) (Fst fs k) (λ_=>0) (λ_=>0)) (λi _=>L-(intOf i).toNat)
 case atStart=>exact⟨0,by omega,rfl,by rw[Fst_zero];exact HNT.out⟩
 clear hclr HNT
 case round=>
  obtain⟨k,hk,rfl,hN⟩:=hrel
  by_cases hlt:k<L
  ·obtain⟨c0,c1,c2,c3,hsz⟩:=hN.cells
   have cF:wr.cell? ⟨w.heap.size+1+1,3+k,none⟩=some (.int .i64 (cnt fs k)):=by rw[hN.b2.cell,tabArr_F (by omega),Fst_self]
   have cG:wr.cell? ⟨w.heap.size+1+1,3+(k+1),none⟩=some (.int .i64 (Fst fs k (k+1))):=by rw[hN.b2.cell,tabArr_F (by omega)]
   have fG:wr.frozen? ⟨w.heap.size+1+1,3+(k+1),none⟩=false:=hN.b2.frozen _
   have z0:w.heap.size<wr.heap.size:=by omega
   have z1:w.heap.size+1<wr.heap.size:=by omega
   have z2:w.heap.size+1+1<wr.heap.size:=by omega
   have cb:=cnt_bd fs k
   have j0:(0:Int)<=(k:Int)+1:=by omega
   have j1:(k:Int)+1<25:=by omega
   have j2:((k:Int)+1).toNat=k+1:=by omega
   have j3:(k:Int)<25:=by omega
   have HN:=Lib.hid hN
   clear hN
   go_wp2_with fail
   refine dag 12 (by kernel_rfl) (by kernel_rfl) (.is ?_::.is ?_::.is ?_::.is ?_::.is ?_::.is ?_::.is ?_::.is ?_::.is ?_::.is ?_::.is ?_::.is ?_::[]) rfl ?st ?ob
   case ob=>
    intro env W' hG
    obtain⟨hc,hf⟩:=bcell hG
    have hG':=Lib.hid hG
    repeat (refine obls_is ?_ ?_;unfold doesAt;go_simp;(try go_bits);refine⟨brefl _,?_⟩;rfl;intro K hK;go_simp;refine hK _ ?_;clear hK K)
    refine obls_last (λ_=>?_)
    have hN1:=(HN.out.later hG).setF (j:=k+1) (by omega) (cnt fs k)
    unfold doesAt
    go_simp
    obtain⟨W2,hW2⟩:∃W2,W'.setCell ⟨w.heap.size+1+1,3+(k+1),none⟩ (.int .i64 (cnt fs k))=W2:=⟨_,rfl⟩
    rw[hW2]at hN1 ⊢
    clear hW2 cF cG fG hc hf hG hG' c0 c1 c2 c3 hsz z0 z1 z2 HN
    obtain⟨c0,c1,c2,c3,hsz⟩:=hN1.cells
    have z0:w.heap.size<W2.heap.size:=by omega
    have z1:w.heap.size+1<W2.heap.size:=by omega
    have z2:w.heap.size+1+1<W2.heap.size:=by omega
    have hcc:=containsEq (k:Int) FA fn fc fs _ (Hfs.out.later hN1.bel)
    have HN1:=Lib.hid hN1
    clear hN1
    cases hcon:fs.contains (k:Int)with
    |false=>
     have HF:=Lib.hid (Fst_no fs k hcon)
     rw[hcon]at hcc
     have Hcc:=Lib.hid hcc
     clear hcc hcon
     go_wp2_with fail
     refine Hcc.out.mono ?_
     rintro e W3⟨rfl,hb3⟩
     have HN3:=Lib.hid (HN1.out.later hb3)
     clear hb3
     go_wp2
     go_roundw
     case rel=>exact⟨k+1,by omega,by go_num,by rw[<-HF.out];exact HN3.out⟩
     case measure=>simp[intOf];omega
    |true=>
     have HF:=Lib.hid (Fst_yes fs k hcon)
     rw[hcon]at hcc
     have Hcc:=Lib.hid hcc
     clear hcc hcon
     go_wp2_with fail
     refine Hcc.out.mono ?_
     rintro e W3⟨rfl,hb3⟩
     have hN3:=HN1.out.later hb3
     clear hb3 c0 c1 c2 c3 hsz z0 z1 z2
     obtain⟨c0,c1,c2,c3,hsz⟩:=hN3.cells
     have z0:w.heap.size<W3.heap.size:=by omega
     have z1:w.heap.size+1<W3.heap.size:=by omega
     have z2:w.heap.size+1+1<W3.heap.size:=by omega
     have cG:W3.cell? ⟨w.heap.size+1+1,3+(k+1),none⟩=some (.int .i64 (cnt fs k)):=by rw[hN3.b2.cell,tabArr_F (by omega)];simp[upd]
     have fG:W3.frozen? ⟨w.heap.size+1+1,3+(k+1),none⟩=false:=hN3.b2.frozen _
     have HN3:=Lib.hid hN3
     clear hN3
     go_wp2_with fail
     refine dag 11 (by kernel_rfl) (by kernel_rfl) (.is ?_::.is ?_::.is ?_::.is ?_::.is ?_::.is ?_::.is ?_::.is ?_::.is ?_::.is ?_::.is ?_::[]) rfl ?st2 ?ob2
     case ob2=>
      intro env W' hG
      obtain⟨hc,hf⟩:=bcell hG
      repeat (refine obls_is ?_ ?_;unfold doesAt;go_simp;(try go_bits);refine⟨brefl _,?_⟩;rfl;intro K hK;go_simp;refine hK _ ?_;clear hK K)
      refine obls_last (λ_=>?_)
      have hN4:=(HN3.out.later hG).setF (j:=k+1) (by omega) (cnt fs k+1)
      unfold doesAt
      go_simp
      obtain⟨W4,hW4⟩:∃W4,W'.setCell ⟨w.heap.size+1+1,3+(k+1),none⟩ (.int .i64 (cnt fs k+1))=W4:=⟨_,rfl⟩
      rw[hW4]at hN4 ⊢
      have HN4:=Lib.hid hN4
      clear hN4 hW4 cG fG hc hf hG c0 c1 c2 c3 hsz z0 z1 z2
      go_wp2
      go_roundw
      case rel=>exact⟨k+1,by omega,by go_num,by rw[<-HF.out];exact HN4.out⟩
      case measure=>simp[intOf];omega
     case st2=>simp[Spec.ok]
   case st=>simp[Spec.ok]
  ·obtain rfl:L=k:=by omega
   obtain⟨c0,c1,c2,c3,hsz⟩:=hN.cells
   have z0:w.heap.size<wr.heap.size:=by omega
   have z1:w.heap.size+1<wr.heap.size:=by omega
   have z2:w.heap.size+1+1<wr.heap.size:=by omega
   have HN:=Lib.hid hN
   clear hN
   go_wp2_with fail
   refine loop_n (LoopA w L wr.heap.size (.slice FA fn fc) (.slice KA ks.length kc) ks (Fst fs L)) L ?_ ?_
   ·refine⟨0,by omega,?_,Marks.nil _ _,HN.out.later (balloc (brefl _) _),Blk.new _ _ _,HN.out.bel.size⟩
    repeat (first|exact fits_nil|refine fits_none ?_|refine fits_some ?_)
   have hM0:w.heap.size<=wr.heap.size:=HN.out.bel.size
   clear HN c0 c1 c2 c3 hsz z0 z1 z2
   generalize wr.heap.size=M at*
   intro n a W hI K hK
   obtain⟨i,hin,hfit,hm,hN,hBM,hMB⟩:=hI
   obtain⟨f,hf⟩:=fits_act hfit
   generalize a.defers=ds at*
   subst hf
   clear hfit
   simp only[fillP,Nat.reduceAdd]
   by_cases hlt:i<L
   ·obtain⟨c0,c1,c2,c3,hsz⟩:=hN.cells
    have cM:=hBM.cell 0
    have zM:=hBM.lt
    have z0:w.heap.size<W.heap.size:=by omega
    have z1:w.heap.size+1<W.heap.size:=by omega
    have z2:w.heap.size+1+1<W.heap.size:=by omega
    have cA:W.cell? ⟨w.heap.size+1+1,28+i,none⟩=some (.int .i64 (aheadAt L (Fst fs L) ks i i)):=by rw[hN.b2.cell,tabArr_A (by omega)]
    have cA1:W.cell? ⟨w.heap.size+1+1,28+(i+1),none⟩=some (.int .i64 (aheadAt L (Fst fs L) ks i (i+1))):=by rw[hN.b2.cell,tabArr_A (by omega)]
    have fA1:W.frozen? ⟨w.heap.size+1+1,28+(i+1),none⟩=false:=hN.b2.frozen _
    have j0:(0:Int)<=(i:Int)+1:=by omega
    have j1:(i:Int)+1<25:=by omega
    have j2:((i:Int)+1).toNat=i+1:=by omega
    have j3:(i:Int)<25:=by omega
    have HM:=Lib.hid hm
    have HN:=Lib.hid hN
    have HBM:=Lib.hid hBM
    clear hm hN hBM
    go_wp2_with fail
    refine dag 22 (by kernel_rfl) (by kernel_rfl) (.is ?_::.is ?_::.is ?_::.is ?_::.is ?_::.is ?_::.is ?_::.is ?_::.is ?_::.is ?_::.is ?_::.is ?_::.is ?_::.is ?_::.is ?_::.is ?_::.like (Pair (aheadAt L (Fst fs L) ks i (i+1)) (aheadAt L (Fst fs L) ks i i))::.is ?_::.is ?_::.is ?_::.is ?_::.is ?_::[]) rfl ?st3 ?ob3
    case ob3=>
     intro env W' hG
     obtain⟨hc,hf⟩:=bcell hG
     have zW:=hG.size
     iterate 16 (refine obls_is ?_ ?_;unfold doesAt;go_simp;(try go_bits);refine⟨brefl _,?_⟩;rfl;intro K hK;go_simp;refine hK _ ?_;clear hK K)
     refine obls_like (λ_=>?_) ?_
     ·unfold doesAt
      go_simp
      exact⟨balloc (brefl _) _,W'.heap.size,rfl,by simp,by go_simp,by go_simp⟩
     intro K hK
     go_simp
     refine hK _ ?_
     clear hK K
     (refine obls_is ?_ ?_;unfold doesAt;go_simp;(try go_bits);refine⟨brefl _,?_⟩;rfl;intro K hK;go_simp;refine hK _ ?_;clear hK K)
     refine obls_isL (λhl=>?_) ?_
     ·obtain⟨g,hg,hg1,hg2,hg3⟩:Pair (aheadAt L (Fst fs L) ks i (i+1)) (aheadAt L (Fst fs L) ks i i) (env 16) W':=hl ⟨16,.data⟩ (by simp) rfl
      have hbt:=best_two g _ _ W' hg1 hg2 hg3
      clear hg2 hg3
      unfold doesAt
      go_simp
      refine hbt.mono ?_
      rintro e w1⟨rfl,hb1⟩
      refine⟨?_,hb1⟩
      rfl
     intro K hK
     go_simp
     refine hK _ ?_
     clear hK K
     repeat (refine obls_is ?_ ?_;unfold doesAt;go_simp;(try go_bits);refine⟨brefl _,?_⟩;rfl;intro K hK;go_simp;refine hK _ ?_;clear hK K)
     refine obls_last (λ_=>?_)
     have hN1:=(HN.out.later (Below.later (balloc (brefl _) _) hG)).setA (j:=i+1) (by omega) (mx (aheadAt L (Fst fs L) ks i (i+1)) (aheadAt L (Fst fs L) ks i i))
     unfold doesAt
     go_simp
     obtain⟨W2,hW2⟩:∃W2,W'.setCell ⟨w.heap.size+1+1,28+(i+1),none⟩ (.int .i64 (mx (aheadAt L (Fst fs L) ks i (i+1)) (aheadAt L (Fst fs L) ks i i)))=W2:=⟨_,rfl⟩
     have hm2:Marks w.heap.size W2 ds:=by rw[<-hW2];exact(HM.out.later (Below.later (balloc (brefl _) _) hG)).setCell _ _
     have hBM2:Blk W2 M 182 #[.func (.func 123) #[] #[]]:=by rw[<-hW2];exact(HBM.out.later (Below.later (balloc (brefl _) _) hG)).other (by show w.heap.size+1+1≠M;exact Blk.apart HN.out.b2 HBM.out (by decide)) _
     have hBi2:Blk W2 W.heap.size 3 #[.int .i64 i]:=by rw[<-hW2];exact((Blk.new W _ _).later hG).other (by show w.heap.size+1+1≠W.heap.size;omega) _
     rw[hW2]at hN1 ⊢
     have hA1:=aheadAt_bd (L:=L) (F:=Fst fs L) Hk.out i
     have hbd1:BdA (upd (aheadAt L (Fst fs L) ks i) (i+1) (mx (aheadAt L (Fst fs L) ks i (i+1)) (aheadAt L (Fst fs L) ks i i))):=by
      have h1:=hA1 i
      have h2:=hA1 (i+1)
      refine hA1.upd ?_ ?_<;>(unfold mx;split<;>omega)
     have hA2:aheadAt L (Fst fs L) ks (i+1)=aheadIn ks i (upd (aheadAt L (Fst fs L) ks i) (i+1) (mx (aheadAt L (Fst fs L) ks i (i+1)) (aheadAt L (Fst fs L) ks i i))) ((List.range ks.length).filter (canI L (Fst fs L) ks i)):=rfl
     generalize upd (aheadAt L (Fst fs L) ks i) (i+1) (mx (aheadAt L (Fst fs L) ks i (i+1)) (aheadAt L (Fst fs L) ks i i))=A1 at hN1 hbd1 hA2
     have HA2:=Lib.hid hA2
     have Hbd1:=Lib.hid hbd1
     generalize W.heap.size=NQ at*
     clear hW2 hA1 hA2 hbd1 cA cA1 fA1 hc hf hG zW HM HN HBM c0 c1 c2 c3 hsz z0 z1 z2 cM zM
     obtain⟨c0,c1,c2,c3,hsz⟩:=hN1.cells
     have q0:=hBi2.cell 0
     have zq:=hBi2.lt
     have HN1:=Lib.hid hN1
     have HM2:=Lib.hid hm2
     have HBM2:=Lib.hid hBM2
     have HBi2:=Lib.hid hBi2
     clear hN1 hm2 hBM2 hBi2
     go_wp2_with fail
     refine(sheets_any (w.heap.size+1+1) i W2).mono ?_
     rintro e w3⟨rfl,hw3⟩
     have hb3:Below W2.heap.size W2 w3:=by rw[<-hw3];exact balloc (balloc (brefl _) _) _
     have d1:w3.cell? ⟨W2.heap.size,0,none⟩=some (.pointer (some ⟨w.heap.size+1+1,0,none⟩)):=by rw[<-hw3];exact((Blk.new W2 _ _).alloc _).cell 0
     have d2:w3.cell? ⟨W2.heap.size+1,0,none⟩=some (.int .i64 i):=by rw[<-hw3];have h5:=(Blk.new (W2.alloc (.cells #[.pointer (some ⟨w.heap.size+1+1,0,none⟩)] 44)) 3 #[.int .i64 i]).cell 0;rw[World.size_alloc]at h5;exact h5
     have d3:w3.heap.size=W2.heap.size+1+1:=by rw[<-hw3];simp
     have D3:=Lib.hid d3
     have Hb3:=Lib.hid hb3
     have D1:=Lib.hid d1
     have D2:=Lib.hid d2
     clear hw3 hb3 d1 d2 d3
     go_wp2_with fail
     have hN3:=HN1.out.later Hb3.out
     refine range_sheets (B1:=W2.heap.size) (B2:=W2.heap.size+1) (T:=w.heap.size+1+1) (L:=L) (F:=Fst fs L) (fr:=i) (d:=9) (w:=w3) rfl Hk.out hL (Fst_bd fs hL) (by omega) (kinds_ne Hk.out Hks.out) (by rw[D3.out];omega) (by rw[D3.out];omega) D1.out D2.out (hN3.tabC Hks.out)
      (λ(pre:List (Ki L (Fst fs L) ks i))W=>NT w W L (.slice FA fn fc) (.slice KA ks.length kc) (Fst fs L) (aheadIn ks i A1 (pre.map Subtype.val)) (λ_=>0)/\Blk W M 182 #[.func (.func 123) #[] #[]]/\Blk W NQ 3 #[.int .i64 i]/\KeepD w3 W)
      (λ_ _ _=>False)
      ?hI (λ_ _ _ _ _ h=>h)
      ⟨hN3,HBM2.out.later Hb3.out,HBi2.out.later Hb3.out,KeepD.refl _⟩ ?assign ?body ?done ?stop
     case hI=>exactλpre W W' hK h=>⟨h.1.kept hK (by rw[D3.out];omega),h.2.1.kept hK,h.2.2.1.kept hK,h.2.2.2.kept hK⟩
     case assign=>
      intro l x W K hK
      gi_wp2
      exact hK
     case body=>
      intro l pre x Bx W hWs hBx hbx hI _
      obtain⟨hN,hB5,hBi,hKD⟩:=hI
      obtain⟨k,hkc⟩:=x
      obtain⟨y,hy,hcb⟩:∃y,ks[k]? =some y/\canB L (Fst fs L) y i=true:=by
       unfold canI at hkc
       cases hy:ks[k]? with
       |none=>rw[hy]at hkc;cases hkc
       |some y=>rw[hy]at hkc;exact⟨y,rfl,hkc⟩
      have hybd:=Hk.out.bd hy
      obtain⟨wd,hwd⟩:∃wd:Nat,y.w=wd:=⟨y.w.toNat,by omega⟩
      have hle:=(canB_iff.1 hcb).1
      have Hkn:=Lib.hid (show∀b o,KA=some ⟨b,o,none⟩->b<w.heap.size fromλb o h=>by obtain⟨b',o',hA,hB,_⟩:=Hks.out.at_ (by have:=Hk.out.1;omega);rw[h]at hA;cases hA;omega)
      have hbA:BdA (aheadIn ks i A1 (pre.map Subtype.val)):=BdA.in_ (L:=L) (F:=Fst fs L) Hk.out _ Hbd1.out (λj hj=>by obtain⟨z,_,rfl⟩:=List.mem_map.1 hj;exact z.2)
      have hsn:aheadIn ks i A1 ((pre++[(⟨k,hkc⟩:Ki L (Fst fs L) ks i)]).map Subtype.val)=upd (aheadIn ks i A1 (pre.map Subtype.val)) (i+wd) (mx (aheadIn ks i A1 (pre.map Subtype.val) (i+wd)) (aheadIn ks i A1 (pre.map Subtype.val) i+y.p)):=by
       rw[List.map_append,List.map_cons,List.map_nil,aheadIn_snoc]
       simp[relA,List.getD,hy,hwd]
      have ha1:=hbA i
      have ha2:=hbA (i+wd)
      generalize aheadIn ks i A1 (pre.map Subtype.val)=A2 at hN hbA hsn ha1 ha2
      obtain⟨kb,ko,y',hKA,hkb,hy',e0,e1,_⟩:=(Hks.out.later hN.bel).ltK (List.getElem?_eq_some_iff.1 hy).1
      rw[hy]at hy'
      cases hy'
      have hendW:∀W',Gr W W'->Calls Tryz.prog 126 #[.pointer (some ⟨w.heap.size+1+1,0,none⟩),.agg #[.int .i64 i,.int .i64 k]] W' λe w'=>e=.returned (.int .i64 (i+wd))/\Below W'.heap.size W' w':=by
       intro W' hG
       have h5:=end_tab ((hN.tabC Hks.out).later hG) Hk.out hy (i:Int) (by omega) (by omega)
       rw[hwd]at h5
       exact h5
      have HendW:=Lib.hid hendW
      rw[hwd]at e0
      obtain⟨c0,c1,c2,c3,hsz⟩:=hN.cells
      have z0:w.heap.size<W.heap.size:=by omega
      have z1:w.heap.size+1<W.heap.size:=by omega
      have z2:w.heap.size+1+1<W.heap.size:=by omega
      have b0:=hbx.cell 0
      have b1:=hbx.cell 1
      have zb:=hbx.lt
      have q0:=hBi.cell 0
      have zq:=hBi.lt
      have m0:=hB5.cell 0
      have zm:=hB5.lt
      have a1:W.cell? ⟨w.heap.size+1+1,28+i,none⟩=some (.int .i64 (A2 i)):=by rw[hN.b2.cell,tabArr_A (by omega)]
      have a2:W.cell? ⟨w.heap.size+1+1,28+(i+wd),none⟩=some (.int .i64 (A2 (i+wd))):=by rw[hN.b2.cell,tabArr_A (by omega)]
      have f2:W.frozen? ⟨w.heap.size+1+1,28+(i+wd),none⟩=false:=hN.b2.frozen _
      have hkl:k<ks.length:=(List.getElem?_eq_some_iff.1 hy).1
      subst hKA
      have j0:(0:Int)<=(i:Int)+(wd:Int):=by omega
      have j1:(i:Int)+(wd:Int)<25:=by omega
      have j2:((i:Int)+(wd:Int)).toNat=i+wd:=by omega
      have j3:(i:Int)<25:=by omega
      obtain⟨hp1,hp2⟩:1<=y.p/\y.p<=1000:=hybd.2.1
      obtain⟨ha1,ha1'⟩:=ha1
      obtain⟨ha2,ha2'⟩:=ha2
      have Hsn:=Lib.hid hsn
      have HN:=Lib.hid hN
      have Hbx:=Lib.hid hbx
      have HBi:=Lib.hid hBi
      have HB5:=Lib.hid hB5
      have HKD:=Lib.hid hKD
      have HW3:=Lib.hid hWs
      clear hsn hN hbx hBi hB5 hKD hendW hwd hy hcb hybd hbA hWs
      unfold boxedAct
      gi_wp2_with fail
      refine dagIn 31 (lets_round l 7 _) (by kernel_rfl) (by kernel_rfl) (.is ?_::.is ?_::.is ?_::.is ?_::.is ?_::.is ?_::.is ?_::.is ?_::.is ?_::.is ?_::.is ?_::.is ?_::.is ?_::.is ?_::.is ?_::.is ?_::.is ?_::.is ?_::.is ?_::.is ?_::.is ?_::.is ?_::.is ?_::.is ?_::.is ?_::.like (Pair (A2 (i+wd)) (A2 i+y.p))::.is ?_::.is ?_::.is ?_::.is ?_::.is ?_::[]) rfl ?st4 ?ob4
      case ob4=>
       intro env W' hG
       obtain⟨hc,hf⟩:=bcell hG
       iterate 3 (refine obls_is ?_ ?_;unfold doesAt;go_simp;(try go_bits);refine⟨brefl _,?_⟩;rfl;intro K hK;go_simp;refine hK _ ?_;clear hK K)
       refine obls_is ?_ ?_
       ·unfold doesAt
        go_simp
        refine(HendW.out W' hG).mono ?_
        rintro e w1⟨rfl,hb1⟩
        refine⟨?_,hb1⟩
        rfl
       intro K hK
       go_simp
       refine hK _ ?_
       clear hK K
       iterate 3 (refine obls_is ?_ ?_;unfold doesAt;go_simp;(try go_bits);refine⟨brefl _,?_⟩;rfl;intro K hK;go_simp;refine hK _ ?_;clear hK K)
       refine obls_is ?_ ?_
       ·unfold doesAt
        go_simp
        refine(HendW.out W' hG).mono ?_
        rintro e w1⟨rfl,hb1⟩
        refine⟨?_,hb1⟩
        rfl
       intro K hK
       go_simp
       refine hK _ ?_
       clear hK K
       iterate 17 (refine obls_is ?_ ?_;unfold doesAt;go_simp;(try go_bits);refine⟨brefl _,?_⟩;rfl;intro K hK;go_simp;refine hK _ ?_;clear hK K)
       refine obls_like (λ_=>?_) ?_
       ·unfold doesAt
        go_simp
        exact⟨balloc (brefl _) _,W'.heap.size,rfl,by simp,by go_simp,by go_simp⟩
       intro K hK
       go_simp
       refine hK _ ?_
       clear hK K
       (refine obls_is ?_ ?_;unfold doesAt;go_simp;(try go_bits);refine⟨brefl _,?_⟩;rfl;intro K hK;go_simp;refine hK _ ?_;clear hK K)
       refine obls_isL (λhl=>?_) ?_
       ·obtain⟨g,hg,hg1,hg2,hg3⟩:Pair (A2 (i+wd)) (A2 i+y.p) (env 25) W':=hl ⟨25,.data⟩ (by simp) rfl
        have hbt:=best_two g _ _ W' hg1 hg2 hg3
        clear hg2 hg3
        unfold doesAt
        go_simp
        refine hbt.mono ?_
        rintro e w1⟨rfl,hb1⟩
        refine⟨?_,hb1⟩
        rfl
       intro K hK
       go_simp
       refine hK _ ?_
       clear hK K
       iterate 3 (refine obls_is ?_ ?_;unfold doesAt;go_simp;(try go_bits);refine⟨brefl _,?_⟩;rfl;intro K hK;go_simp;refine hK _ ?_;clear hK K)
       refine obls_last (λ_=>?_)
       have hN4:=(HN.out.later hG).setA (j:=i+wd) (by omega) (mx (A2 (i+wd)) (A2 i+y.p))
       unfold doesAt
       go_simp
       exact⟨(KeepsFrom.later hG).trans (KeepsFrom.set _ _ _),(KpT.of_below hG (by have:=HW3.out;rw[D3.out]at this;omega) (by have:=HW3.out;rw[D3.out]at this;omega) (by omega) (λb o h=>by have:=Hkn.out b o h;have:=HN.out.bel.size;omega)).trans (KpT.set _ (p:=⟨w.heap.size+1+1,28+(i+wd),none⟩) (by show w.heap.size+1+1≠W2.heap.size;omega) (by show w.heap.size+1+1≠W2.heap.size+1;omega) (λ_=>by show 28<=28+(i+wd);omega) (λ_ _=>rfl) _),by rw[Hsn.out];exact hN4,
        (HB5.out.later hG).other (by show w.heap.size+1+1≠M;exact Blk.apart HN.out.b2 HB5.out (by decide)) _,(HBi.out.later hG).other (by show w.heap.size+1+1≠NQ;exact Blk.apart HN.out.b2 HBi.out (by decide)) _,(HKD.out.later hG).set _ _⟩
      case st4=>
       repeat (first|exact stab_nil|refine stab_is ?_|refine stab_like (Pair.stab _ _) ?_)
     case done=>
      intro D W5 hD hI5 hd
      obtain⟨hN5,hB5,_,hKD5⟩:=hI5
      have hval:(kiTo L (Fst fs L) ks i ks.length).map Subtype.val=(List.range ks.length).filter (canI L (Fst fs L) ks i):=kiTo_val _ _ _ _ _
      rw[hval,<-HA2.out]at hN5
      have hmk:Marks w.heap.size W5 (mark D::ds):=(HM2.out.later Hb3.out).cons hD (by rw[D3.out];omega) hd (λk c _ hk=>hKD5 k c hk)
      have HN5:=Lib.hid hN5
      have HB5:=Lib.hid hB5
      have Hmk:=Lib.hid hmk
      clear hN5 hB5 hKD5 hd hmk hval
      go_wp2
      refine hK _ _ (n-1) (by omega) ⟨i+1,by omega,?_,Hmk.out,HN5.out,HB5.out,hMB⟩
      repeat (first|exact fits_nil|refine fits_none ?_|refine fits_some ?_)
     case stop=>exactλ_ _ _ _ _ _ h _=>h.elim
    case st3=>
     repeat (first|exact stab_nil|refine stab_is ?_|refine stab_like (Pair.stab _ _) ?_)
   ·obtain rfl:L=i:=by omega
    obtain⟨c0,c1,c2,c3,hsz⟩:=hN.cells
    have HM:=Lib.hid hm
    have HN:=Lib.hid hN
    have HBM:=Lib.hid hBM
    clear hm hN hBM hK hin
    go_wp2_with fail
    obtain⟨AL,hAL⟩:∃AL,aheadAt L (Fst fs L) ks L=AL:=⟨_,rfl⟩
    have HAL:=Lib.hid hAL
    clear hAL
    refine loop_n (LoopB w L M (.slice FA fn fc) (.slice KA ks.length kc) ks (Fst fs L) AL) L ?_ ?_
    ·refine⟨0,by omega,?_,HM.out,by rw[<-HAL.out];exact HN.out,HBM.out,hMB⟩
     repeat (first|exact fits_nil|refine fits_none ?_|refine fits_some ?_)
    clear HN HM HBM c0 c1 c2 c3 hsz
    intro n a W hI K hK
    obtain⟨i,hin,hfit,hm,hN,hBM,hMB⟩:=hI
    obtain⟨f,hf⟩:=fits_act hfit
    generalize a.defers=ds at*
    subst hf
    clear hfit
    simp only[fillP,Nat.reduceAdd]
    by_cases hlt:i<L
    ·obtain⟨m,hmL⟩:∃m,m=L-1-i:=⟨_,rfl⟩
     have jm:(L:Int)-1-(i:Int)=(m:Int):=by omega
     have hm24:m<24:=by omega
     have hmL':m+1<=L:=by omega
     have HmL:=Lib.hid hmL
     clear hmL
     obtain⟨c0,c1,c2,c3,hsz⟩:=hN.cells
     have cM:=hBM.cell 0
     have zM:=hBM.lt
     have z0:w.heap.size<W.heap.size:=by omega
     have z1:w.heap.size+1<W.heap.size:=by omega
     have z2:w.heap.size+1+1<W.heap.size:=by omega
     have cA:W.cell? ⟨w.heap.size+1+1,53+m,none⟩=some (.int .i64 (behindAt L (Fst fs L) ks i m)):=by rw[hN.b2.cell,tabArr_B (by omega)]
     have cA1:W.cell? ⟨w.heap.size+1+1,53+(m+1),none⟩=some (.int .i64 (behindAt L (Fst fs L) ks i (m+1))):=by rw[hN.b2.cell,tabArr_B (by omega)]
     have fA:W.frozen? ⟨w.heap.size+1+1,53+m,none⟩=false:=hN.b2.frozen _
     have j0:(0:Int)<=(m:Int)+1:=by omega
     have j1:(m:Int)+1<25:=by omega
     have j2:((m:Int)+1).toNat=m+1:=by omega
     have j3:(m:Int)<25:=by omega
     have HM:=Lib.hid hm
     have HN:=Lib.hid hN
     have HBM:=Lib.hid hBM
     clear hm hN hBM
     go_wp2_with fail
     refine dag 12 (by kernel_rfl) (by kernel_rfl) (.is ?_::.is ?_::.is ?_::.is ?_::.is ?_::.is ?_::.is ?_::.is ?_::.is ?_::.is ?_::.is ?_::.is ?_::[]) rfl ?st5 ?ob5
     case ob5=>
      intro env W' hG
      obtain⟨hc,hf⟩:=bcell hG
      have zW:=hG.size
      repeat (refine obls_is ?_ ?_;unfold doesAt;go_simp;(try go_bits);refine⟨brefl _,?_⟩;rfl;intro K hK;go_simp;refine hK _ ?_;clear hK K)
      refine obls_last (λ_=>?_)
      have hN1:=(HN.out.later (Below.later (balloc (brefl _) _) hG)).setB (j:=m) (by omega) (behindAt L (Fst fs L) ks i (m+1))
      unfold doesAt
      go_simp
      obtain⟨W2,hW2⟩:∃W2,W'.setCell ⟨w.heap.size+1+1,53+m,none⟩ (.int .i64 (behindAt L (Fst fs L) ks i (m+1)))=W2:=⟨_,rfl⟩
      have hm2:Marks w.heap.size W2 ds:=by rw[<-hW2];exact(HM.out.later (Below.later (balloc (brefl _) _) hG)).setCell _ _
      have hBM2:Blk W2 M 182 #[.func (.func 123) #[] #[]]:=by rw[<-hW2];exact(HBM.out.later (Below.later (balloc (brefl _) _) hG)).other (by show w.heap.size+1+1≠M;exact Blk.apart HN.out.b2 HBM.out (by decide)) _
      have hBi2:Blk W2 W.heap.size 3 #[.int .i64 m]:=by rw[<-hW2];exact((Blk.new W _ _).later hG).other (by show w.heap.size+1+1≠W.heap.size;omega) _
      rw[hW2]at hN1 ⊢
      have hA1:=behindAt_bd (L:=L) (F:=Fst fs L) Hk.out i (by omega)
      have hbd1:BdB L (upd (behindAt L (Fst fs L) ks i) m (behindAt L (Fst fs L) ks i (m+1))):=by
       have h2:=hA1 (m+1)
       refine hA1.upd ?_ ?_<;>omega
      have hA2:behindAt L (Fst fs L) ks (i+1)=behindIn ks m (upd (behindAt L (Fst fs L) ks i) m (behindAt L (Fst fs L) ks i (m+1))) ((List.range ks.length).filter (canI L (Fst fs L) ks m)):=by rw[HmL.out];rfl
      generalize upd (behindAt L (Fst fs L) ks i) m (behindAt L (Fst fs L) ks i (m+1))=A1 at hN1 hbd1 hA2
      have HA2:=Lib.hid hA2
      have Hbd1:=Lib.hid hbd1
      generalize W.heap.size=NQ at*
      clear hW2 hA1 hA2 hbd1 cA cA1 fA hc hf hG zW HM HN HBM c0 c1 c2 c3 hsz z0 z1 z2 cM zM jm
      obtain⟨c0,c1,c2,c3,hsz⟩:=hN1.cells
      have q0:=hBi2.cell 0
      have zq:=hBi2.lt
      have HN1:=Lib.hid hN1
      have HM2:=Lib.hid hm2
      have HBM2:=Lib.hid hBM2
      have HBi2:=Lib.hid hBi2
      clear hN1 hm2 hBM2 hBi2
      go_wp2_with fail
      refine(sheets_any (w.heap.size+1+1) m W2).mono ?_
      rintro e w3⟨rfl,hw3⟩
      have hb3:Below W2.heap.size W2 w3:=by rw[<-hw3];exact balloc (balloc (brefl _) _) _
      have d1:w3.cell? ⟨W2.heap.size,0,none⟩=some (.pointer (some ⟨w.heap.size+1+1,0,none⟩)):=by rw[<-hw3];exact((Blk.new W2 _ _).alloc _).cell 0
      have d2:w3.cell? ⟨W2.heap.size+1,0,none⟩=some (.int .i64 m):=by rw[<-hw3];have h5:=(Blk.new (W2.alloc (.cells #[.pointer (some ⟨w.heap.size+1+1,0,none⟩)] 44)) 3 #[.int .i64 m]).cell 0;rw[World.size_alloc]at h5;exact h5
      have d3:w3.heap.size=W2.heap.size+1+1:=by rw[<-hw3];simp
      have D3:=Lib.hid d3
      have Hb3:=Lib.hid hb3
      have D1:=Lib.hid d1
      have D2:=Lib.hid d2
      clear hw3 hb3 d1 d2 d3
      go_wp2_with fail
      have hN3:=HN1.out.later Hb3.out
      refine range_sheets (B1:=W2.heap.size) (B2:=W2.heap.size+1) (T:=w.heap.size+1+1) (L:=L) (F:=Fst fs L) (fr:=m) (d:=12) (w:=w3) rfl Hk.out hL (Fst_bd fs hL) (by omega) (kinds_ne Hk.out Hks.out) (by rw[D3.out];omega) (by rw[D3.out];omega) D1.out D2.out (hN3.tabC Hks.out)
       (λ(pre:List (Ki L (Fst fs L) ks m))W=>NT w W L (.slice FA fn fc) (.slice KA ks.length kc) (Fst fs L) AL (behindIn ks m A1 (pre.map Subtype.val))/\Blk W M 182 #[.func (.func 123) #[] #[]]/\Blk W NQ 3 #[.int .i64 m]/\KeepD w3 W)
       (λ_ _ _=>False)
       ?hI2 (λ_ _ _ _ _ h=>h)
       ⟨hN3,HBM2.out.later Hb3.out,HBi2.out.later Hb3.out,KeepD.refl _⟩ ?assign2 ?body2 ?done2 ?stop2
      case hI2=>exactλpre W W' hK h=>⟨h.1.kept hK (by rw[D3.out];omega),h.2.1.kept hK,h.2.2.1.kept hK,h.2.2.2.kept hK⟩
      case assign2=>
       intro l x W K hK
       gi_wp2
       exact hK
      case body2=>
       intro l pre x Bx W hWs hBx hbx hI _
       obtain⟨hN,hB5,hBi,hKD⟩:=hI
       obtain⟨k,hkc⟩:=x
       obtain⟨y,hy,hcb⟩:∃y,ks[k]? =some y/\canB L (Fst fs L) y m=true:=by
        unfold canI at hkc
        cases hy:ks[k]? with
        |none=>rw[hy]at hkc;cases hkc
        |some y=>rw[hy]at hkc;exact⟨y,rfl,hkc⟩
       have hybd:=Hk.out.bd hy
       obtain⟨wd,hwd⟩:∃wd:Nat,y.w=wd:=⟨y.w.toNat,by omega⟩
       have hle:=(canB_iff.1 hcb).1
       have Hkn:=Lib.hid (show∀b o,KA=some ⟨b,o,none⟩->b<w.heap.size fromλb o h=>by obtain⟨b',o',hA,hB,_⟩:=Hks.out.at_ (by have:=Hk.out.1;omega);rw[h]at hA;cases hA;omega)
       have hbA:BdB L (behindIn ks m A1 (pre.map Subtype.val)):=BdB.in_ (L:=L) (F:=Fst fs L) Hk.out _ Hbd1.out (λj hj=>by obtain⟨z,_,rfl⟩:=List.mem_map.1 hj;exact z.2)
       have hsn:behindIn ks m A1 ((pre++[(⟨k,hkc⟩:Ki L (Fst fs L) ks m)]).map Subtype.val)=upd (behindIn ks m A1 (pre.map Subtype.val)) m (mx (behindIn ks m A1 (pre.map Subtype.val) m) (behindIn ks m A1 (pre.map Subtype.val) (m+wd)+y.p)):=by
        rw[List.map_append,List.map_cons,List.map_nil,behindIn_snoc]
        simp[relB,List.getD,hy,hwd]
       have ha1:=hbA m
       have ha2:=hbA (m+wd)
       generalize behindIn ks m A1 (pre.map Subtype.val)=A2 at hN hbA hsn ha1 ha2
       obtain⟨kb,ko,y',hKA,hkb,hy',e0,e1,_⟩:=(Hks.out.later hN.bel).ltK (List.getElem?_eq_some_iff.1 hy).1
       rw[hy]at hy'
       cases hy'
       have hendW:∀W',Gr W W'->Calls Tryz.prog 126 #[.pointer (some ⟨w.heap.size+1+1,0,none⟩),.agg #[.int .i64 m,.int .i64 k]] W' λe w'=>e=.returned (.int .i64 (m+wd))/\Below W'.heap.size W' w':=by
        intro W' hG
        have h5:=end_tab ((hN.tabC Hks.out).later hG) Hk.out hy (m:Int) (by omega) (by omega)
        rw[hwd]at h5
        exact h5
       have HendW:=Lib.hid hendW
       rw[hwd]at e0
       obtain⟨c0,c1,c2,c3,hsz⟩:=hN.cells
       have z0:w.heap.size<W.heap.size:=by omega
       have z1:w.heap.size+1<W.heap.size:=by omega
       have z2:w.heap.size+1+1<W.heap.size:=by omega
       have b0:=hbx.cell 0
       have b1:=hbx.cell 1
       have zb:=hbx.lt
       have q0:=hBi.cell 0
       have zq:=hBi.lt
       have m0:=hB5.cell 0
       have zm:=hB5.lt
       have a1:W.cell? ⟨w.heap.size+1+1,53+m,none⟩=some (.int .i64 (A2 m)):=by rw[hN.b2.cell,tabArr_B (by omega)]
       have a2:W.cell? ⟨w.heap.size+1+1,53+(m+wd),none⟩=some (.int .i64 (A2 (m+wd))):=by rw[hN.b2.cell,tabArr_B (by omega)]
       have f2:W.frozen? ⟨w.heap.size+1+1,53+m,none⟩=false:=hN.b2.frozen _
       have hkl:k<ks.length:=(List.getElem?_eq_some_iff.1 hy).1
       subst hKA
       have j0:(0:Int)<=(m:Int)+(wd:Int):=by omega
       have j1:(m:Int)+(wd:Int)<25:=by omega
       have j2:((m:Int)+(wd:Int)).toNat=m+wd:=by omega
       have j3:(m:Int)<25:=by omega
       obtain⟨hp1,hp2⟩:1<=y.p/\y.p<=1000:=hybd.2.1
       obtain⟨ha1,ha1'⟩:=ha1
       obtain⟨ha2,ha2'⟩:=ha2
       have ha3:A2 (m+wd)<=24000:=by omega
       have Hsn:=Lib.hid hsn
       have HN:=Lib.hid hN
       have Hbx:=Lib.hid hbx
       have HBi:=Lib.hid hBi
       have HB5:=Lib.hid hB5
       have HKD:=Lib.hid hKD
       have HW3:=Lib.hid hWs
       clear hsn hN hbx hBi hB5 hKD hendW hwd hy hcb hybd hbA hWs ha1' ha2'
       unfold boxedAct
       gi_wp2_with fail
       refine dagIn 29 (lets_round l 7 _) (by kernel_rfl) (by kernel_rfl) (.is ?_::.is ?_::.is ?_::.is ?_::.is ?_::.is ?_::.is ?_::.is ?_::.is ?_::.is ?_::.is ?_::.is ?_::.is ?_::.is ?_::.is ?_::.is ?_::.is ?_::.is ?_::.is ?_::.is ?_::.is ?_::.is ?_::.is ?_::.like (Pair (A2 m) (A2 (m+wd)+y.p))::.is ?_::.is ?_::.is ?_::.is ?_::.is ?_::[]) rfl ?st6 ?ob6
       case ob6=>
        intro env W' hG
        obtain⟨hc,hf⟩:=bcell hG
        iterate 11 (refine obls_is ?_ ?_;unfold doesAt;go_simp;(try go_bits);refine⟨brefl _,?_⟩;rfl;intro K hK;go_simp;refine hK _ ?_;clear hK K)
        refine obls_is ?_ ?_
        ·unfold doesAt
         go_simp
         refine(HendW.out W' hG).mono ?_
         rintro e w1⟨rfl,hb1⟩
         refine⟨?_,hb1⟩
         rfl
        intro K hK
        go_simp
        refine hK _ ?_
        clear hK K
        iterate 11 (refine obls_is ?_ ?_;unfold doesAt;go_simp;(try go_bits);refine⟨brefl _,?_⟩;rfl;intro K hK;go_simp;refine hK _ ?_;clear hK K)
        refine obls_like (λ_=>?_) ?_
        ·unfold doesAt
         go_simp
         exact⟨balloc (brefl _) _,W'.heap.size,rfl,by simp,by go_simp,by go_simp⟩
        intro K hK
        go_simp
        refine hK _ ?_
        clear hK K
        (refine obls_is ?_ ?_;unfold doesAt;go_simp;(try go_bits);refine⟨brefl _,?_⟩;rfl;intro K hK;go_simp;refine hK _ ?_;clear hK K)
        refine obls_isL (λhl=>?_) ?_
        ·obtain⟨g,hg,hg1,hg2,hg3⟩:Pair (A2 m) (A2 (m+wd)+y.p) (env 23) W':=hl ⟨23,.data⟩ (by simp) rfl
         have hbt:=best_two g _ _ W' hg1 hg2 hg3
         clear hg2 hg3
         unfold doesAt
         go_simp
         refine hbt.mono ?_
         rintro e w1⟨rfl,hb1⟩
         refine⟨?_,hb1⟩
         rfl
        intro K hK
        go_simp
        refine hK _ ?_
        clear hK K
        iterate 3 (refine obls_is ?_ ?_;unfold doesAt;go_simp;(try go_bits);refine⟨brefl _,?_⟩;rfl;intro K hK;go_simp;refine hK _ ?_;clear hK K)
        refine obls_last (λ_=>?_)
        have hN4:=(HN.out.later hG).setB (j:=m) (by omega) (mx (A2 m) (A2 (m+wd)+y.p))
        unfold doesAt
        go_simp
        exact⟨(KeepsFrom.later hG).trans (KeepsFrom.set _ _ _),(KpT.of_below hG (by have:=HW3.out;rw[D3.out]at this;omega) (by have:=HW3.out;rw[D3.out]at this;omega) (by omega) (λb o h=>by have:=Hkn.out b o h;have:=HN.out.bel.size;omega)).trans (KpT.set _ (p:=⟨w.heap.size+1+1,53+m,none⟩) (by show w.heap.size+1+1≠W2.heap.size;omega) (by show w.heap.size+1+1≠W2.heap.size+1;omega) (λ_=>by show 28<=53+m;omega) (λ_ _=>rfl) _),by rw[Hsn.out];exact hN4,
         (HB5.out.later hG).other (by show w.heap.size+1+1≠M;exact Blk.apart HN.out.b2 HB5.out (by decide)) _,(HBi.out.later hG).other (by show w.heap.size+1+1≠NQ;exact Blk.apart HN.out.b2 HBi.out (by decide)) _,(HKD.out.later hG).set _ _⟩
       case st6=>
        repeat (first|exact stab_nil|refine stab_is ?_|refine stab_like (Pair.stab _ _) ?_)
      case done2=>
       intro D W5 hD hI5 hd
       obtain⟨hN5,hB5,_,hKD5⟩:=hI5
       have hval:(kiTo L (Fst fs L) ks m ks.length).map Subtype.val=(List.range ks.length).filter (canI L (Fst fs L) ks m):=kiTo_val _ _ _ _ _
       rw[hval,<-HA2.out]at hN5
       have hmk:Marks w.heap.size W5 (mark D::ds):=(HM2.out.later Hb3.out).cons hD (by rw[D3.out];omega) hd (λk c _ hk=>hKD5 k c hk)
       have HN5:=Lib.hid hN5
       have HB5:=Lib.hid hB5
       have Hmk:=Lib.hid hmk
       clear hN5 hB5 hKD5 hd hmk hval
       go_wp2
       refine hK _ _ (n-1) (by omega) ⟨i+1,by omega,?_,Hmk.out,HN5.out,HB5.out,hMB⟩
       repeat (first|exact fits_nil|refine fits_none ?_|refine fits_some ?_)
      case stop2=>exactλ_ _ _ _ _ _ h _=>h.elim
     case st5=>
      repeat (first|exact stab_nil|refine stab_is ?_)
    ·obtain rfl:L=i:=by omega
     obtain⟨c0,c1,c2,c3,hsz⟩:=hN.cells
     have HM:=Lib.hid hm
     have HN:=Lib.hid hN
     have HBM:=Lib.hid hBM
     clear hm hN hBM hK
     go_wp2_with fail
     refine postM_ret (B:=w.heap.size) (v:=.pointer (some ⟨w.heap.size+1+1,0,none⟩)) HM.out (λW'=>results_tmp (t:=4) rfl _ _ _) (λW' hK=>?_)
     have hN':=HN.out.kept hK (Nat.le_refl _)
     exact⟨w.heap.size+1+1,by omega,rfl,hN'.bel,⟨hN'.tabC Hks.out,λj hj=>by rw[hN'.b2.cell,tabArr_A hj,HAL.out],λj hj=>by rw[hN'.b2.cell,tabArr_B hj]⟩⟩
end Go.Proofs.YtpbcmkebdcejkaaGreatDoor.C
namespace Go.Proofs.YtpbcmkebdcejkaaGreatDoor.C
open Go.RowKit Go.Shelf
def rkE(L:Int)(fs:List Int)(ks:List Kd):Int:=if ribE L fs=0 then kndE ks else ribE L fs
theorem ribE_zero{L:Int}{fs:List Int}(h:ribE L fs=0):(1<=L/\L<=24)/\∀j,j<fs.length->gdB L fs j=true:=by
 unfold ribE at h
 split at h
 ·rename_i h1
  split at h
  ·rename_i h2
   exact⟨(inR_iff _ _ _).1 h1,λj hj=>List.all_eq_true.1 h2 j (List.mem_range.2 hj)⟩
  ·simp at h
 ·simp at h
structure TabOk(w:World)(T:Nat)(L:Nat)(FA:Option Addr)(fn fc:Nat)(KA:Option Addr)(kc:Nat)(fs:List Int)(ks:List Kd):Prop where
 tab:Tab w w.heap.size T L FA fn fc KA kc ks (Fst fs L) (aheadAt L (Fst fs L) ks L) (behindAt L (Fst fs L) ks L)
 kok:KOk ks
 l1:1<=L
 l2:L<=24
 ne:∀b o,KA=some ⟨b,o,none⟩->b≠T
set_option maxHeartbeats 1000000 in
theorem open_ok(L:Nat)(FA:Option Addr)(fn fc:Nat)(fs:List Int)(KA:Option Addr)(kc:Nat)(ks:List Kd)(w:World)(hfs:Sl 1 encI w w.heap.size FA fn fc fs)(hks:Sl 3 encK w w.heap.size KA ks.length kc ks)(he:rkE L fs ks=0):
 Calls Tryz.prog 13 #[.agg #[.int .i64 L,.slice FA fn fc],.slice KA ks.length kc] w λe w'=>∃T,e=.returned (.tuple #[.pointer (some ⟨T,0,none⟩),.int .i64 0])/\Below w.heap.size w w'/\TabOk w' T L FA fn fc KA kc fs ks:=by
 have hr:=λW hb=>ribbon_any L FA fn fc fs W (hfs.later (w':=W) hb)
 have hk:=λW hb=>kinds_any KA ks.length kc ks W (hks.later (w':=W) hb)
 unfold rkE at he
 by_cases h0:ribE (L:Int) fs=0
 ·rw[if_pos h0]at he
  obtain⟨⟨hl1,hl2⟩,_⟩:=ribE_zero h0
  have hko:=KOk.of he
  have hn:=Lib.hid (λW hb=>newTable_any L FA fn fc fs KA kc ks W (by omega) (by omega) hko (hfs.later (w':=W) hb) (hks.later hb))
  have Hko:=Lib.hid hko
  have Hne:=Lib.hid (show∀b o,KA=some ⟨b,o,none⟩->b<w.heap.size fromλb o h=>by obtain⟨b',o',hA,hB,_⟩:=hks.at_ (by have:=hko.1;omega);rw[h]at hA;cases hA;exact hB)
  simp only[h0]at hr
  simp only[he]at hk
  have Hr:=Lib.hid hr
  have Hk:=Lib.hid hk
  clear hr hk hfs hks h0 he hko
  go_enter Tryz.func13,Tryz.ntmps13
  go_wp2_with fail
  refine(Hr.out _ (balloc (brefl w) _)).mono ?_
  rintro e w1⟨rfl,hb1⟩
  have HB:=Lib.hid (Below.later (balloc (brefl w) _) hb1)
  have k0:w1.cell? ⟨w.heap.size,0,none⟩=some (.int .i64 L):=(hb1.cell (p:=⟨w.heap.size,0,none⟩) (by simp)).trans (by go_simp)
  have k1:w1.cell? ⟨w.heap.size,1,none⟩=some (.slice FA fn fc):=(hb1.cell (p:=⟨w.heap.size,1,none⟩) (by simp)).trans (by go_simp)
  have hz:w.heap.size<w1.heap.size:=by have:=hb1.size;simp at this;omega
  clear hb1
  go_wp2_with fail
  refine(Hk.out _ HB.out).mono ?_
  rintro e w2⟨rfl,hb2⟩
  have HB2:=Lib.hid (Below.later HB.out hb2)
  have k2:=(hb2.cell (p:=⟨w.heap.size,0,none⟩) hz).trans k0
  have k3:=(hb2.cell (p:=⟨w.heap.size,1,none⟩) hz).trans k1
  clear hb2 k0 k1
  go_wp2_with fail
  refine(hn.out _ HB2.out).mono ?_
  rintro e w3⟨T,hTn,rfl,hb3,ht⟩
  have Hb3:=Lib.hid hb3
  have Ht:=Lib.hid ht
  clear hb3 ht k2 k3
  go_wp2
  go_ret2
  exact⟨T,rfl,Below.later HB2.out Hb3.out,Ht.out,Hko.out,by omega,by omega,λb o h=>by have:=Hne.out b o h;have:=HB2.out.size;omega⟩
 ·rw[if_neg h0]at he
  exact absurd he h0
end Go.Proofs.YtpbcmkebdcejkaaGreatDoor.C
