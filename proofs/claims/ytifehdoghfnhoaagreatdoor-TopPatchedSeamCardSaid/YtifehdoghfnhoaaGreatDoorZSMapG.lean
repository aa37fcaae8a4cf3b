/- A map from windows to numbers, as a plain set with worths: what a store and a delete make of it. · steam's vat.windows: what it hands back yields all windows from the beginning of a log to the end of one. · A range over steam's vat.windows. · steam's best of chains: one that needs the most. · steam's vat.proof: windows that prove the fewest loads. · Plain words for steam's vat.proof, and what stands while it runs. -/
import Derived.Test.YtifehdoghfnhoaaGreatDoorZSPick
import Derived.Maps.OwnIn
import Derived.DeepKeys3
import Derived.KernelRfl
import Derived.Carry
import Derived.Test.YtifehdoghfnhoaaGreatDoorZSThree
import Derived.Test.YtifehdoghfnhoaaGreatDoorZSPlan
namespace Go.Proofs.YtifehdoghfnhoaaGreatDoor
open Go.RowKit Go.Shelf Go.Maps
abbrev DM:=DataW Unit
theorem keyed_rg:Keyed Tryz.prog 34:=Keyed.of_law (deep_law (m:=4) (by omega) (by kernel_rfl) (by kernel_rfl) (by kernel_rfl))
theorem lits_int{P:Program}{t:TypeId}{q:IntKind}(h:P.underlying t=some (.int q))(n:Nat)(x:Int)(hx:(Lit.int q x).wf=true):P.keyLits (n+1) t [.int q x]=some [.int q x]:=by
 simp[Program.keyLits,h,hx]
theorem lits_rg(n:Nat)(f k:Int)(hf:(Lit.int .i64 f).wf=true)(hk:(Lit.int .i64 k).wf=true):Tryz.prog.keyLits (n+1+1) 34 [.int .i64 f,.int .i64 k]=some [.int .i64 f,.int .i64 k]:=by
 have c2:Tryz.prog.cellsOf 34=2:=by kernel_rfl
 have c3:Tryz.prog.cellsOf 2=1:=by kernel_rfl
 conv=>lhs;unfold Program.keyLits
 simp only[Tryz.underlying34,c2,c3,lits_int und_i64 n f hf,lits_int und_i64 n k hk,List.length_cons,List.length_nil,List.mapM_cons,List.mapM_nil,List.drop_zero,List.drop_succ_cons,List.take_succ_cons,List.take_zero]
 rw[if_pos ⟨trivial,by kernel_rfl⟩]
 rfl
noncomputable def keyR(r:Rg):Lit:=.string (keyBytes [.int .i64 r.lo,.int .i64 r.hi])
def smallR(r:Rg):Prop:=(0<=r.lo/\r.lo<=1000)/\(0<=r.hi/\r.hi<=1000)
theorem wf_smallI(n:Int)(h:0<=n/\n<=1000):(Lit.int .i64 n).wf=true:=by
 have h1:IntKind.i64.min=-9223372036854775808:=by decide
 have h2:IntKind.i64.max=9223372036854775807:=by decide
 simp[Lit.wf,h1,h2];omega
theorem keyR_of(r:Rg)(h:smallR r):keyOf Tryz.prog 34 (.agg #[.int .i64 r.lo,.int .i64 r.hi])=some (keyR r):=by
 have h1:Tryz.prog.keyType 34=true:=by kernel_rfl
 have h2:∃n,Tryz.prog.types.size+1=n+1+1:=⟨Tryz.prog.types.size-1,by kernel_rfl⟩
 obtain⟨n,hn⟩:=h2
 have c1:Tryz.prog.cellsOf 34=2:=by kernel_rfl
 unfold keyOf
 rw[hn]
 simp only[Tryz.underlying34,h1,Value.formed,c1,Value.cells,lits_rg n r.lo r.hi (wf_smallI _ h.1) (wf_smallI _ h.2)]
 rfl
theorem keyR_inj{r s:Rg}(hr:smallR r)(hs:smallR s)(h:keyR r=keyR s):r=s:=by
 have h1:=keyed_rg.inj (keyR_of r hr) (h▸keyR_of s hs)
 simp at h1
 cases r;cases s
 simp_all
structure MapIs(D:DM)(S:Rg->Prop)(wt:Rg->Int):Prop where
 isMap:IsMap D
 yes:∀r,S r->has D (keyR r)=true/\∀z,D.atKey (keyR r) z=.lit (.int .i64 (wt r))
 only:∀z,has D z=true->∃r,z=keyR r/\S r
 small:∀r,S r->smallR r
section
variable{D:DM}{S S':Rg->Prop}{wt:Rg->Int}
theorem MapIs.empty(wt:Rg->Int):MapIs (.map []) (λ_=>False) wt:=⟨isMap_empty,λ_ h=>h.elim,λz h=>by simp[has]at h,λ_ h=>h.elim⟩
theorem MapIs.congr(h:MapIs D S wt)(hS:∀r,S r↔S' r):MapIs D S' wt:=
 ⟨h.isMap,λr hs=>h.yes r ((hS r).2 hs),λz hz=>by obtain⟨r,e,hs⟩:=h.only z hz;exact⟨r,e,(hS r).1 hs⟩,λr hs=>h.small r ((hS r).2 hs)⟩
theorem MapIs.put(h:MapIs D S wt)(r:Rg)(hr:smallR r):MapIs (D.put (keyR r) (.lit (.int .i64 (wt r)))) (λs=>S s\/s=r) wt:=by
 have hkl:=keyed_rg.key (keyR_of r hr)
 refine⟨h.isMap.put _ _,λs hs=>?_,λz hz=>?_,λs hs=>?_⟩
 ·by_cases e:s=r
  ·subst e
   exact⟨has_put_same h.isMap hkl _,λz=>atKey_put_same h.isMap hkl _ _⟩
  ·have hs:=hs.resolve_right e
   have hne:keyR s≠keyR r:=λe'=>e (keyR_inj (h.small _ hs) hr e')
   rw[has_put_other hne]
   exact⟨(h.yes _ hs).1,λz=>by rw[atKey_put_other hne];exact(h.yes _ hs).2 z⟩
 ·by_cases e:z=keyR r
  ·exact⟨r,e,.inr rfl⟩
  ·rw[has_put_other e]at hz
   obtain⟨s,e',hs⟩:=h.only z hz
   exact⟨s,e',.inl hs⟩
 ·rcases hs with hs|rfl
  ·exact h.small _ hs
  ·exact hr
theorem MapIs.del(h:MapIs D S wt)(r:Rg)(hr:smallR r):MapIs (D.del (keyR r)) (λs=>S s/\s≠r) wt:=by
 refine⟨h.isMap.del _,λs hs=>?_,λz hz=>?_,λs hs=>h.small _ hs.1⟩
 ·obtain⟨hs,e⟩:=hs
  have hne:keyR s≠keyR r:=λe'=>e (keyR_inj (h.small _ hs) hr e')
  rw[has_del_other hne]
  exact⟨(h.yes _ hs).1,λz=>by rw[atKey_del_other hne];exact(h.yes _ hs).2 z⟩
 ·by_cases e:z=keyR r
  ·subst e;rw[has_del_same]at hz;cases hz
  ·rw[has_del_other e]at hz
   obtain⟨s,e',hs⟩:=h.only z hz
   refine⟨s,e',hs,?_⟩
   rintro rfl
   exact e e'
end
abbrev OwnsM(W:World)(b n:Nat)(D:DM):Prop:=W.ownsMap Tryz.prog 34 (plainElem Tryz.prog 2) b n D
abbrev RangesM(W:World)(b r n:Nat)(D:DM)(left:Lit->Bool)(cnt:Nat):Prop:=W.ranges Tryz.prog 34 (plainElem Tryz.prog 2) b r n D left cnt
theorem und_mrg:Tryz.prog.underlying 400=some (.map 34 2):=by kernel_rfl
theorem elem_val(x:Int)(h:(Lit.int .i64 x).wf=true):plainElem (H:=Unit) Tryz.prog 2 (.int .i64 x)=some (.lit (.int .i64 x),[]):=plainElem_int und_i64 h
theorem wf_mid(x:Int)(h0:0<=x)(h1:x<=1000000):(Lit.int .i64 x).wf=true:=by
 have h2:IntKind.i64.min=-9223372036854775808:=by decide
 have h3:IntKind.i64.max=9223372036854775807:=by decide
 simp[Lit.wf,h2,h3];omega
theorem calls_of_marks{P:Program}{f:FuncId}{fn:Func}{c:Code}{args:Array Value}{w:World}{R:Ending->World->Prop}(hf:P.funcs[f]? =some fn) (hb:fn.body=some c)
 (h:c.wp P (bodyPostM Fence.wide 9 P fn R) {tmps:=args++Array.replicate (fn.ntmps-args.size) undef,defers:=[]} w):Calls P f args w R:=
 (callsIn_wide (n:=9)).1 (callsIn_of_wp_marks hf hb trivial (wpIn_wide.2 h))
theorem postM_ret{P:Program}{fn:Func}{R:Ending->World->Prop}{a:Act}{B:Nat}{W:World}{v:Value}(hm:Marks B W a.defers)(hr:∀W',(results fn a.tmps).run P W'=.ok v W')(hR:∀W',Kept B W W'->R (.returned v) W'):bodyPostM Fence.wide 9 P fn R .ret a W:=
 leavesM_marks _ _ _ hm hr hR
def KeepD(W0 W:World):Prop:=∀k:Nat,∀c,W0.heap[k]? =some (.deferred c)->W.heap[k]? =some (.deferred c)
theorem KeepD.refl(W:World):KeepD W W:=λ_ _ h=>h
theorem KeepD.later{W0 W W':World}(h:KeepD W0 W)(hb:Below W.heap.size W W'):KeepD W0 W':=λk c hk=>(hb.block k (Array.getElem?_eq_some_iff.1 (h k c hk)).1).trans (h k c hk)
theorem KeepD.map{W0 W W':World}{b n:Nat}{D:DM}(h:KeepD W0 W)(ho:OwnsM W b n D)(hg:W.grownBy W' (some b)):KeepD W0 W':=by
 intro k c hk
 have h1:=h k c hk
 refine(hg.block k (Array.getElem?_eq_some_iff.1 h1).1 (λhb=>?_)).trans h1
 obtain⟨es,clock,hb',_⟩:=ho
 simp at hb
 subst hb
 rw[hb']at h1
 cases h1
end Go.Proofs.YtifehdoghfnhoaaGreatDoor
namespace Go.Proofs.YtifehdoghfnhoaaGreatDoor
open Go.RowKit Go.Shelf Go.Maps
attribute [local go_sem] Oper.semAt_some
def winsL(rs:List Rg):List Rg:=rs.flatMap λa=>(rs.filter λb=>decide (a.lo<=b.hi)).map λb=>⟨a.lo,b.hi⟩
theorem winsL_iff{rs:List Rg}{r:Rg}:r∈winsL rs↔∃a b,a∈rs/\b∈rs/\a.lo<=b.hi/\r=⟨a.lo,b.hi⟩:=by
 unfold winsL
 simp only[List.mem_flatMap,List.mem_map,List.mem_filter,decide_eq_true_eq]
 constructor
 ·rintro⟨a,ha,b,⟨hb,h⟩,rfl⟩;exact⟨a,b,ha,hb,h,rfl⟩
 ·rintro⟨a,b,ha,hb,h,rfl⟩;exact⟨a,ha,b,⟨hb,h⟩,rfl⟩
abbrev Wi(rs:List Rg):={r:Rg // r∈winsL rs}
structure KpC(W W':World):Prop where
 size:W.heap.size<=W'.heap.size
 cells:∀(k:Nat)(c:Array Value)(e:TypeId)(f:Nat×Nat),W.heap[k]? =some (.cells c e f)->W'.heap[k]? =some (.cells c e f)
section
variable{A B C:World}
theorem KpC.refl(W:World):KpC W W:=⟨Nat.le_refl _,λ_ _ _ _ h=>h⟩
theorem KpC.trans(h:KpC A B)(k:KpC B C):KpC A C:=⟨Nat.le_trans h.size k.size,λi c e f hi=>k.cells i c e f (h.cells i c e f hi)⟩
theorem KpC.of_below(h:Below A.heap.size A B):KpC A B:=⟨h.size,λi _ _ _ hi=>(h.block i (Array.getElem?_eq_some_iff.1 hi).1).trans hi⟩
theorem KpC.blk(h:KpC A B){b:Nat}{t:TypeId}{cs:Array Value}(hb:Blk A b t cs):Blk B b t cs:=h.cells b cs t (0,0) hb
theorem KpC.cell(h:KpC A B){p:Addr}{v:Value}(hv:A.cell? p=some v):B.cell? p=some v:=by
 unfold World.cell? at hv ⊢
 cases ho:A.heap[p.block]? with
 |none=>rw[ho]at hv;cases hv
 |some o=>
  rw[ho]at hv
  cases o with
  |cells c e f=>rw[h.cells _ c e f ho];exact hv
  |_=>cases hv
theorem KpC.sl{α:Type}{k:Nat}{enc:α->List Value}{b:Nat}{P:Option Addr}{n c:Nat}{xs:List α}(h:KpC A B)(hs:Sl k enc A b P n c xs):Sl k enc B b P n c xs:=
 ⟨hs.len,hs.cap,hs.big,λhn=>by
   obtain⟨b,o,hA,hB,hc⟩:=hs.at_ hn
   exact⟨b,o,hA,hB,λi x hx j u hu=>h.cell (hc i x hx j u hu)⟩⟩
theorem KpC.put(W:World)(l:Nat)(o o':Obj)(hl:W.heap[l]? =some o) (hc:o.isCells=false):KpC W (W.putObj l o'):=
 ⟨(grownBy_putObj' W l o').size,λk c e f hk=>(World.putObj_heap_other (by rintro rfl;rw[hl]at hk;cases hk;simp[Obj.isCells]at hc)).trans hk⟩
theorem KpC.grown{row:Option Nat}(hg:A.grownBy B row)(hr:∀r,row=some r->∃o,A.heap[r]? =some o/\o.isCells=false):KpC A B:=
 ⟨hg.size,λk c e f hk=>(hg.block k (Array.getElem?_eq_some_iff.1 hk).1 (λe'=>by
   obtain⟨o,ho,hc⟩:=hr k e'.symm
   rw[hk]at ho;cases ho;simp[Obj.isCells]at hc)).trans hk⟩
end
theorem Sl.wider{α:Type}{k:Nat}{enc:α->List Value}{w:World}{B B':Nat}{A:Option Addr}{n c:Nat}{xs:List α}(h:Sl k enc w B A n c xs)(hB:B<=B'):Sl k enc w B' A n c xs:=
 ⟨h.len,h.cap,h.big,λhn=>by
   obtain⟨b,o,hA,hb,hc⟩:=h.at_ hn
   exact⟨b,o,hA,Nat.lt_of_lt_of_le hb hB,hc⟩⟩
structure IR(W:World)(B1 g:Nat)(L:Int)(A:Option Addr)(c:Nat)(rs:List Rg):Prop where
 b1:Blk W B1 72 #[.pointer (some ⟨g,0,none⟩)]
 vt:Blk W g 99 #[.int .i64 L,.slice A rs.length c]
 sl:Sl 2 encR W W.heap.size A rs.length c rs
theorem IR.kp{W W':World}{B1 g:Nat}{L:Int}{A:Option Addr}{c:Nat}{rs:List Rg}(h:IR W B1 g L A c rs)(k:KpC W W'):IR W' B1 g L A c rs:=⟨k.blk h.b1,k.blk h.vt,(k.sl h.sl).wider k.size⟩
def Cov(rs:List Rg)(k q:Nat)(pre:List (Wi rs)):Prop:=∀i j a b,(i<k\/(i=k/\j<q))->rs[i]? =some a->rs[j]? =some b->a.lo<=b.hi->∃y∈pre,y.1=⟨a.lo,b.hi⟩
section
variable{rs:List Rg}{k q:Nat}{pre:List (Wi rs)}
theorem Cov.no(h:Cov rs k q pre){a b:Rg}(ha:rs[k]? =some a) (hb:rs[q]? =some b) (hn:¬a.lo<=b.hi):Cov rs k (q+1) pre:=by
 intro i j a' b' hij ha' hb' hle
 by_cases e:i=k/\j=q
 ·obtain⟨rfl,rfl⟩:=e
  rw[ha]at ha';rw[hb]at hb';cases ha';cases hb'
  exact absurd hle hn
 ·exact h i j a' b' (by omega) ha' hb' hle
theorem Cov.yes(h:Cov rs k q pre){a b:Rg}(ha:rs[k]? =some a) (hb:rs[q]? =some b) {y:Wi rs} (hy:y.1=⟨a.lo,b.hi⟩):Cov rs k (q+1) (pre++[y]):=by
 intro i j a' b' hij ha' hb' hle
 by_cases e:i=k/\j=q
 ·obtain⟨rfl,rfl⟩:=e
  rw[ha]at ha';rw[hb]at hb';cases ha';cases hb'
  exact⟨y,by simp,hy⟩
 ·obtain⟨z,hz,hz2⟩:=h i j a' b' (by omega) ha' hb' hle
  exact⟨z,by simp[hz],hz2⟩
theorem Cov.next(h:Cov rs k rs.length pre):Cov rs (k+1) 0 pre:=by
 intro i j a b hij ha hb hle
 have hj:=(List.getElem?_eq_some_iff.1 hb).1
 exact h i j a b (by omega) ha hb hle
end
set_option maxRecDepth 100000 in
set_option maxHeartbeats 4000000 in
theorem wins1_in(n:Nat)(l B1 g:Nat)(L:Int)(A:Option Addr)(c:Nat)(rs:List Rg)(hr:RsOk rs)(J Jx:List (Wi rs)->World->Prop)(W:World)
 (hJ:AbidesFrom W.heap.size J)
 (hY:∀pre x W1,J pre W1->pre.length<1000->YieldAt Fence.wide (n-1) Tryz.prog l #[.agg #[.int .i64 x.1.lo,.int .i64 x.1.hi]] W1 λe W'=>
   (e=.returned (.bool true)/\J (pre++[x]) W'/\KpC W1 W')\/(e=.returned (.bool false)/\Jx (pre++[x]) W'))
 (hR:IR W B1 g L A c rs)(h0:J [] W):
 CallsIn Fence.wide n Tryz.prog 368 #[.func (.yield l) #[] #[],.pointer (some ⟨B1,0,none⟩)] W λe W'=>(∃v,e=.returned v)/\
  ((∃ys,((∀r∈winsL rs,∃y∈ys,y.1=r)/\ys.length<=100)/\J ys W')\/(∃pre,True/\Jx pre W')):=by
 have hn10:=hr.1
 have m0:=hR.b1.cell 0
 have m1:=hR.vt.cell 0
 have m2:=hR.vt.cell 1
 have ml:=hR.b1.lt
 have mg:=hR.vt.lt
 have HR:=Lib.hid hR
 have HY:=Lib.hid hY
 have HJ:=Lib.hid hJ
 have H0:=Lib.hid h0
 clear hY hR hJ h0 hr
 obtain⟨n1,hn1⟩:∃n1,rs.length=n1:=⟨_,rfl⟩
 rw[hn1]at hn10 m2
 have Hn:=Lib.hid hn1
 clear hn1
 refine callsIn_of_wp Tryz.func368 rfl trivial ?_ rfl
 simp only[Tryz.ntmps368,List.size_toArray,List.length_cons,List.length_nil,Nat.reduceAdd,Nat.reduceSub,Array.replicate_succ,Array.replicate_zero,List.push_toArray,List.append_toArray,List.nil_append,List.cons_append]
 gi_wp2
 clear m0 m1 m2 ml mg
 gi_loopw [13] (λi wr=>∃(k:Nat)(pre:List (Wi rs)),k<=n1/\i=.int .i64 k/\J pre wr/\KpC W wr/\pre.length<=k*10/\Cov rs k 0 pre)
  (λi _=>n1-(intOf i).toNat)
 case atStart=>exact⟨0,[],Nat.zero_le _,rfl,H0.out,KpC.refl _,by simp,λi j a b h=>by omega⟩
 case round=>
  obtain⟨k,pre,hk,rfl,hJs,hkp,hpl,hcov⟩:=hrel
  have hRr:=HR.out.kp hkp
  have m0:=hRr.b1.cell 0
  have m1:=hRr.vt.cell 0
  have m2:=hRr.vt.cell 1
  have ml:=hRr.b1.lt
  have mg:=hRr.vt.lt
  rw[Hn.out]at m2
  have HJs:=Lib.hid hJs
  have Hkp:=Lib.hid hkp
  have Hcov:=Lib.hid hcov
  clear hJs hkp hcov
  by_cases hlt:k<n1
  ·obtain⟨rb,ro,x,rfl,hrb,hx,g0,g1⟩:=hRr.sl.ltR (show k<rs.length by rw[Hn.out];exact hlt)
   have Hx:=Lib.hid hx
   have hJ1:=HJ.out _ _ _ none HJs.out (World.grownBy_alloc wr (.cells #[.int .i64 x.lo,.int .i64 x.hi] 34) none) (λr e=>by cases e)
   have HJ1:=Lib.hid hJ1
   have HB4:=Lib.hid (show Blk (wr.alloc (.cells #[.int .i64 x.lo,.int .i64 x.hi] 34)) wr.heap.size 34 #[.int .i64 x.lo,.int .i64 x.hi]from Blk.new wr _ _)
   have Hkp1:=Lib.hid (Hkp.out.trans (KpC.of_below (balloc (brefl wr) (.cells #[.int .i64 x.lo,.int .i64 x.hi] 34))))
   clear hx hJ1 hRr HJs Hkp
   gi_wp2
   clear m0 m1 m2 ml mg g0 g1
   gi_loopw [23] (λj w2=>∃(q:Nat)(pr2:List (Wi rs)),q<=n1/\j=.int .i64 q/\J pr2 w2/\KpC W w2/\Blk w2 wr.heap.size 34 #[.int .i64 x.lo,.int .i64 x.hi]/\pr2.length<=k*10+q/\Cov rs k q pr2)
    (λj _=>n1-(intOf j).toNat)
   case atStart=>exact⟨0,pre,Nat.zero_le _,rfl,HJ1.out,Hkp1.out,HB4.out,by omega,Hcov.out⟩
   case round=>
    obtain⟨q,pr2,hq,rfl,hJ2,hkp2,hb4,hpl2,hcov2⟩:=hrel
    have hRq:=HR.out.kp hkp2
    have z4:=hb4.lt
    have HJ2:=Lib.hid hJ2
    have Hkp2:=Lib.hid hkp2
    have Hcov2:=Lib.hid hcov2
    have Hb4:=Lib.hid hb4
    have Hpl2:=Lib.hid hpl2
    clear hJ2 hkp2 hcov2 hb4 hpl2
    by_cases hlt2:q<n1
    ·obtain⟨rb2,ro2,y,hA,hrb2,hy,g2,g3⟩:=hRq.sl.ltR (show q<rs.length by rw[Hn.out];exact hlt2)
     simp only[Option.some.injEq,Addr.mk.injEq,and_true]at hA
     obtain⟨rfl,rfl⟩:=hA
     have hJ3:=HJ.out _ _ _ none HJ2.out (World.grownBy_alloc wr (.cells #[.int .i64 y.lo,.int .i64 y.hi] 34) none) (λr e=>by cases e)
     have HJ3:=Lib.hid hJ3
     have hal:=balloc (brefl wr) (.cells #[.int .i64 y.lo,.int .i64 y.hi] 34)
     have HB4':=Lib.hid (Hb4.out.later hal)
     have Hkp3:=Lib.hid (Hkp2.out.trans (KpC.of_below hal))
     have d0:=HB4'.out.cell 0
     have d1:=HB4'.out.cell 1
     have d2:=HB4'.out.lt
     have hnb:Blk (wr.alloc (.cells #[.int .i64 y.lo,.int .i64 y.hi] 34)) wr.heap.size 34 #[.int .i64 y.lo,.int .i64 y.hi]:=Blk.new wr _ _
     have d3:=hnb.cell 0
     have d4:=hnb.cell 1
     have Hy:=Lib.hid hy
     clear hy hJ3 hal hRq HJ2 Hkp2 hnb
     cases hc:decide (x.lo<=y.hi)with
     |true=>
      have hmem:(⟨x.lo,y.hi⟩:Rg)∈winsL rs:=winsL_iff.2 ⟨x,y,List.mem_of_getElem? Hx.out,List.mem_of_getElem? Hy.out,of_decide_eq_true hc,rfl⟩
      obtain⟨fn',tmps',assign',body',hy,hR⟩:=HY.out pr2 ⟨⟨x.lo,y.hi⟩,hmem⟩ _ HJ3.out (by have:=Hpl2.out;omega)
      dsimp only at hy
      have HR3:=Lib.hid hR
      clear hR
      gi_wp2
      refine⟨λh=>(by simp[Fence.wide]at h),?_⟩
      refine HR3.out.mono ?_
      rintro e W3(⟨rfl,hJ4,hk4⟩|⟨rfl,hJx4⟩)
      ·have HJ4:=Lib.hid hJ4
       have Hk4:=Lib.hid hk4
       clear hJ4 hk4 d0 d1 d2 d3 d4
       gi_wp2
       go_roundw
       case rel=>exact⟨q+1,_,by omega,by go_num,HJ4.out,Hkp3.out.trans Hk4.out,Hk4.out.blk HB4'.out,by have:=Hpl2.out;simp;omega,Hcov2.out.yes Hx.out Hy.out rfl⟩
       case measure=>simp[intOf];omega
      ·have HJx4:=Lib.hid hJx4
       clear hJx4 d0 d1 d2 d3 d4
       gi_wp2
       refine bodyPost_ret (results_none rfl _ _ _) rfl ?_
       exact⟨⟨_,rfl⟩,.inr ⟨_,trivial,HJx4.out⟩⟩
     |false=>
      have hc':=of_decide_eq_false hc
      have Hc2:=Lib.hid (Hcov2.out.no Hx.out Hy.out hc')
      clear hc'
      gi_wp2
      refine⟨λ_ h=>(by cases h),?_⟩
      gi_wp2
      go_roundw
      case rel=>exact⟨q+1,_,by omega,by go_num,HJ3.out,Hkp3.out,HB4'.out,by have:=Hpl2.out;omega,Hc2.out⟩
      case measure=>simp[intOf];omega
    ·obtain rfl:q=n1:=by omega
     have Hc2:=Lib.hid (show Cov rs (k+1) 0 pr2 from Cov.next (by rw[Hn.out];exact Hcov2.out))
     clear hRq
     gi_wp2
     go_roundw
     case rel=>exact⟨k+1,_,by omega,by go_num,HJ2.out,Hkp2.out,by have:=Hpl2.out;omega,Hc2.out⟩
     case measure=>simp[intOf];omega
  ·obtain rfl:k=n1:=by omega
   gi_wp2
   go_end0
   refine⟨⟨_,rfl⟩,.inl ⟨_,⟨λr hr=>?_,by omega⟩,HJs.out⟩⟩
   obtain⟨a,b,ha,hb,hle,rfl⟩:=winsL_iff.1 hr
   obtain⟨i,hi⟩:=List.getElem?_of_mem ha
   obtain⟨j,hj⟩:=List.getElem?_of_mem hb
   exact Hcov.out i j a b (.inl (by rw[<-Hn.out];exact(List.getElem?_eq_some_iff.1 hi).1)) hi hj hle
end Go.Proofs.YtifehdoghfnhoaaGreatDoor
namespace Go.Proofs.YtifehdoghfnhoaaGreatDoor
open Go.RowKit Go.Shelf Go.Maps
theorem wins_stops(n:Nat)(B1 g:Nat)(L:Int)(A:Option Addr)(c:Nat)(rs:List Rg)(hr:RsOk rs)(w:World)(hR:IR w B1 g L A c rs):
 SeqStopsK Fence.wide n Tryz.prog 368 #[.pointer (some ⟨B1,0,none⟩)] (λx:Wi rs=>#[.agg #[.int .i64 x.1.lo,.int .i64 x.1.hi]]) KpC
  (λys=>(∀r∈winsL rs,∃y∈ys,y.1=r)/\ys.length<=100) (λ_=>True) 1000 w:=λl J Jx W hW hJ _ hY h0=>
 wins1_in n l B1 g L A c rs hr J Jx W hJ hY (hR.kp (KpC.of_below hW)) h0
set_option maxHeartbeats 400000 in
theorem windows_any(g:Nat)(w:World):
 Calls Tryz.prog 343 #[.pointer (some ⟨g,0,none⟩)] w λe w'=>
  e=.returned (.func (.func 368) #[] #[.pointer (some ⟨w.heap.size,0,none⟩)])/\w.alloc (.cells #[.pointer (some ⟨g,0,none⟩)] 72)=w':=by
 go_enter Tryz.func343,Tryz.ntmps343
 go_wp2
 go_ret
 exact⟨rfl,rfl⟩
def boxedAct(a:Act)(p d:Tmp)(r:Rg)(Bx:Nat):Act:={tmps:=(a.tmps.setIfInBounds p (.agg #[.int .i64 r.lo,.int .i64 r.hi])).setIfInBounds d (.pointer (some ⟨Bx,0,none⟩)),defers:=[]}
theorem range_wins{B1 gv:Nat}{L:Int}{A:Option Addr}{c:Nat}{rs:List Rg}{g:Operand}{p d:Tmp}{assign body:Code}{Q:Exit->Act->World->Prop}{a:Act}{w:World}
 (hg:a.eval g=.func (.func 368) #[] #[.pointer (some ⟨B1,0,none⟩)])(hr:RsOk rs)(hR:IR w B1 gv L A c rs)
 (I:List (Wi rs)->World->Prop)(Ix:Code->List (Wi rs)->World->Prop)(hI:∀pre W W',Kept w.heap.size W W'->I pre W->I pre W')(hIx:∀c pre W W',Kept w.heap.size W W'->Ix c pre W->Ix c pre W')(h0:I [] w)
 (hassign:∀(l:Nat)(x:Wi rs)(W:World)(K:Act->World->Prop),K (boxedAct a p d x.1 W.heap.size) (W.alloc (.cells #[.int .i64 x.1.lo,.int .i64 x.1.hi] 34))->
   assign.wpIn (Fence.wide.inRound l) 7 Tryz.prog (Exit.then K (λ_ _ _=>False)) {tmps:=a.tmps.setIfInBounds p (.agg #[.int .i64 x.1.lo,.int .i64 x.1.hi]),defers:=[]} W)
 (hbody:∀(l:Nat)(pre:List (Wi rs))(x:Wi rs)(Bx:Nat)(W:World),w.heap.size<=W.heap.size->w.heap.size<=Bx->Blk W Bx 34 #[.int .i64 x.1.lo,.int .i64 x.1.hi]->I pre W->pre.length<1000->
   body.wpIn (Fence.wide.inRound l) 7 Tryz.prog (ownPostG w.heap.size KpC I Ix (pre++[x]) W) (boxedAct a p d x.1 Bx) W)
 (hdone:∀(D:Nat)(W:World)(ys:List (Wi rs)),w.heap.size<=D->((∀r∈winsL rs,∃y∈ys,y.1=r)/\ys.length<=100)->I ys W->W.heap[D]? =some (.deferred (some []))->Q .normal {a with defers:=mark D::a.defers} W)
 (hstop:∀(D:Nat)(c:Code)(pre:List (Wi rs))(W:World),w.heap.size<=D->Ix c pre W->W.heap[D]? =some (.deferred (some []))->c.wp Tryz.prog Q {a with defers:=mark D::a.defers} W):
 (Code.rangeFunc g #[p] assign body).wp Tryz.prog Q a w:=by
 refine(wpIn_wide (n:=9)).1 ?_
 refine wpIn_rangeFunc_ownH (F:=Fence.wide) rfl (by omega) hg trivial (enters_of Tryz.func368 (by kernel_rfl) rfl)
  (wins_stops 8 B1 gv L A c rs hr w hR) (λh k=>h.trans k) (λW l o o' _ ho hc _=>KpC.put W l o o' ho hc) (Below.refl _ _) (λ_=>rfl)
  (λpre W=>w.heap.size<=W.heap.size/\I pre W) Ix
  (λs W W' row hs hg hr=>⟨Nat.le_trans hs.1 hg.size,hI s W W' (Kept.of_grown hg hr) hs.2⟩) (λc s W W' row hs hg hr=>hIx c s W W' (Kept.of_grown hg hr) hs) ⟨Nat.le_refl _,h0⟩
  (λx a' W=>∃Bx,w.heap.size<=Bx/\Blk W Bx 34 #[.int .i64 x.1.lo,.int .i64 x.1.hi]/\a'=boxedAct a p d x.1 Bx)
  (λx a' s W W' row hs hg hr=>by
    obtain⟨Bx,h1,h2,h3⟩:=hs
    exact⟨Bx,h1,h2.kept (Kept.of_grown hg hr),h3⟩) ?_ ?_ ?_ ?_
 ·intro l pre x W K hi hK
  have:=hassign l x W K (hK _ _ (KeepsFrom.later (balloc (brefl W) _)) (KpC.of_below (balloc (brefl W) _)) ⟨Nat.le_trans hi.1 (by simp),hI pre W _ (Kept.of_grown (World.grownBy_alloc W _ none) (λr e=>by cases e)) hi.2⟩
   ⟨W.heap.size,hi.1,Blk.new W _ _,rfl⟩)
  have e2:∀v:Value,Array.foldl (λ(t:Array Value)(x:Tmp×Value)=>match x with|(p,v)=>t.setIfInBounds p v) a.tmps ((#[p]:Array Tmp).zip #[v])=a.tmps.setIfInBounds p v:=λv=>by simp
  rw[e2]
  exact this
 ·intro l pre x a' W _ _ hi hx hlen
  obtain⟨Bx,h1,h2,rfl⟩:=hx
  refine wpIn_mono (hbody l pre x Bx W hi.1 h1 h2 hi.2 hlen) ?_
  intro e b W' hq
  cases e with
  |normal=>exact⟨hq.1,hq.2.1,Nat.le_trans hi.1 hq.1.size,hq.2.2⟩
  |_=>exact hq
 ·intro D xs W hD hS hi hd
  exact hdone D W xs hD hS hi.2 hd
 ·intro D c pre W hD _ hi hd
  exact wpIn_wide.2 (hstop D c pre W hD hi hd)
end Go.Proofs.YtifehdoghfnhoaaGreatDoor
namespace Go.Proofs.YtifehdoghfnhoaaGreatDoor
open Go.RowKit Go.Shelf
structure Ch where
 A:Option Addr
 n:Nat
 c:Nat
 v:Int
def Ch.sl(x:Ch):Value:=.slice x.A x.n x.c
def encCh(x:Ch):List Value:=[.slice x.A x.n x.c,.int .i64 x.v]
theorem Sl.ltCh{w:World}{B:Nat}{A:Option Addr}{n c:Nat}{xs:List Ch}(h:Sl 2 encCh w B A n c xs){i:Nat}(hi:i<n):∃b o x,A=some ⟨b,o,none⟩/\b<B/\xs[i]? =some x/\w.cell? ⟨b,o+i*2,none⟩=some (.slice x.A x.n x.c)/\w.cell? ⟨b,o+i*2+1,none⟩=some (.int .i64 x.v):=by
 obtain⟨b,o,x,hA,hB,hx,hc⟩:=h.lt hi
 exact⟨b,o,x,hA,hB,hx,by simpa using hc 0 _ rfl,by simpa using hc 1 _ rfl⟩
def gtB(x y:Ch):Bool:=decide (y.v<x.v)
set_option maxHeartbeats 1000000 in
theorem chCmp_any(x y:Ch)(w:World):
 Calls Tryz.prog 345 #[.agg #[.slice x.A x.n x.c,.int .i64 x.v],.agg #[.slice y.A y.n y.c,.int .i64 y.v]] w λe w'=>e=.returned (.bool (gtB x y))/\Below w.heap.size w w':=by
 have HB:=Lib.hid (balloc (balloc (brefl w) (.cells #[.slice x.A x.n x.c,.int .i64 x.v] 406)) (.cells #[.slice y.A y.n y.c,.int .i64 y.v] 406))
 obtain⟨q,hq⟩:∃q,gtB x y=q:=⟨_,rfl⟩
 have hd:decide (y.v<x.v)=q:=hq
 rw[hq]
 clear hq
 go_enter Tryz.func345,Tryz.ntmps345
 go_wp2
 go_ret
 exact⟨rtB (by simp_all),HB.out⟩
structure BW(w W:World)(x:Ch):Prop where
 bel:Below w.heap.size w W
 b0:Blk W w.heap.size 406 #[.slice none 0 0,.int .i64 0]
 b1:Blk W (w.heap.size+1) 406 #[.slice x.A x.n x.c,.int .i64 x.v]
theorem BW.later{w W W':World}{x:Ch}(h:BW w W x)(hb:Below W.heap.size W W'):BW w W' x:=⟨Below.later h.bel hb,h.b0.later hb,h.b1.later hb⟩
theorem BW.set{w W:World}{x:Ch}(h:BW w W x)(y:Ch):BW w ((W.setCell ⟨w.heap.size+1,0,none⟩ (.slice y.A y.n y.c)).setCell ⟨w.heap.size+1,1,none⟩ (.int .i64 y.v)) y:=
 ⟨(h.bel.setCell (by show w.heap.size<=w.heap.size+1;omega) _).setCell (by show w.heap.size<=w.heap.size+1;omega) _,(h.b0.other (by show w.heap.size+1≠_;omega) _).other (by show w.heap.size+1≠_;omega) _,by
   have h1:=(h.b1.set 0 (.slice y.A y.n y.c)).set 1 (.int .i64 y.v)
   simpa using h1⟩
set_option maxRecDepth 100000 in
set_option maxHeartbeats 4000000 in
theorem bestCh_any(A:Option Addr)(n c:Nat)(xs:List Ch)(w:World)(hs:Sl 2 encCh w w.heap.size A n c xs)(hn:0<n):
 Calls Tryz.prog 344 #[.slice A n c,.func (.func 345) #[] #[]] w λe w'=>(∃x∈xs,e=.returned (.agg #[.slice x.A x.n x.c,.int .i64 x.v])/\∀y∈xs,y.v<=x.v)/\Below w.heap.size w w':=by
 obtain rfl:=hs.len
 have hcap:=hs.cap
 have hbig:=hs.big
 obtain⟨rb,ro,x0,rfl,hrb,hx0,g0,g1⟩:=hs.ltCh hn
 have Hs:=Lib.hid hs
 have Hx0:=Lib.hid hx0
 have i1:(0:Int)<(xs.length:Int):=by omega
 have i2:(1:Int)<=(xs.length:Int):=by omega
 have i3:(1:Int)<=(c:Int):=by omega
 have i4:(xs.length:Int)<=(c:Int):=by omega
 have HB0:=Lib.hid (show BW w ((w.alloc (.cells #[.slice none 0 0,.int .i64 0] 406)).alloc (.cells #[.slice x0.A x0.n x0.c,.int .i64 x0.v] 406)) x0 from⟨balloc (balloc (brefl w) _) _,(Blk.new w _ _).alloc _,by
  have h1:=Blk.new (w.alloc (.cells #[.slice none 0 0,.int .i64 0] 406)) 406 #[.slice x0.A x0.n x0.c,.int .i64 x0.v]
  rw[World.size_alloc]at h1
  exact h1⟩)
 rw[Nat.zero_mul,Nat.add_zero]at g0 g1
 clear hs hx0
 go_enter Tryz.func344,Tryz.ntmps344
 go_wp2_with fail
 ·rename_i h1
  have hx1:xs.length=1:=by omega
  have HL:=Lib.hid hx1
  have j1:¬((0:Int)<((xs.length-1:Nat):Int)):=by omega
  clear hx1
  refine wp_loop_rounds 1 ?_
  rw[rounds_succ]
  clear g0 g1
  generalize (w.alloc (.cells #[.slice none 0 0,.int .i64 0] 406)).alloc (.cells #[.slice x0.A x0.n x0.c,.int .i64 x0.v] 406)=W at*
  obtain⟨x,hx⟩:∃x,x0=x:=⟨_,rfl⟩
  subst hx
  have hBX:=HB0.out
  have c0:=hBX.b1.cell 0
  have c1:=hBX.b1.cell 1
  have c2:=hBX.b1.lt
  have b1:=hBX.b0.frozen 0
  have b2:=hBX.b0.frozen 1
  have b3:=hBX.b0.cell 0
  have b4:=hBX.b0.cell 1
  have HM:=Lib.hid (List.mem_of_getElem? Hx0.out)
  have HE:=Lib.hid (show∀y∈xs,y.v<=x0.v fromλy hy=>by
   obtain⟨j,hj⟩:=List.getElem?_of_mem hy
   have h2:=(List.getElem?_eq_some_iff.1 hj).1
   obtain rfl:j=0:=by have:=HL.out;omega
   rw[Hx0.out]at hj;cases hj;exact Int.le_refl _)
  clear hBX
  go_wp2
  have hBX:=HB0.out
  have b5:=hBX.b0.lt
  refine bodyPost_ret (v:=.agg #[.slice x0.A x0.n x0.c,.int .i64 x0.v]) ?_ rfl ⟨⟨x0,HM.out,rfl,HE.out⟩,(HB0.out.bel.setCell (by show w.heap.size<=w.heap.size;omega) _).setCell (by show w.heap.size<=w.heap.size;omega) _⟩
  have e0:((W.setCell ⟨w.heap.size,0,none⟩ (.slice x0.A x0.n x0.c)).setCell ⟨w.heap.size,1,none⟩ (.int .i64 x0.v)).cell? ⟨w.heap.size,0,none⟩=some (.slice x0.A x0.n x0.c):=by
   rw[((hBX.b0.set 0 _).set 1 _).cell 0];rfl
  have e1:((W.setCell ⟨w.heap.size,0,none⟩ (.slice x0.A x0.n x0.c)).setCell ⟨w.heap.size,1,none⟩ (.int .i64 x0.v)).cell? ⟨w.heap.size,1,none⟩=some (.int .i64 x0.v):=by
   rw[((hBX.b0.set 0 _).set 1 _).cell 1];rfl
  simp[results,Tryz.results344,go_sem,e0,e1]
 clear g0 g1
 refine lpn (λm b W=>b.defers=[]/\∃(i:Nat)(x:Ch),i+m=xs.length-1/\Hid (x∈xs)/\Hid (∀j y,j<=i->xs[j]? =some y->y.v<=x.v)/\BW w W x/\Fits (none::some (.func (.func 345) #[] #[])::none::none::some (.pointer (some ⟨w.heap.size,0,none⟩))::some (.pointer (some ⟨w.heap.size+1,0,none⟩))::none::none::none::none::none::none::some (.slice (some ⟨rb,ro+2,none⟩) (xs.length-1) (c-1))::some (.int .i64 ((xs.length-1:Nat):Int))::some (.int .i64 (i:Nat))::none::none::none::none::none::none::none::none::none::none::[]) b.tmps.toList) (xs.length-1) ?_ ?_
 ·refine⟨rfl,0,x0,by omega,Lib.hid (List.mem_of_getElem? Hx0.out),Lib.hid (λj y hj hy=>?_),HB0.out,?_⟩
  ·obtain rfl:j=0:=by omega
   rw[Hx0.out]at hy;cases hy;exact Int.le_refl _
  ·repeat (first|exact ftL|refine ftN ?_|refine ftS ?_)
 clear HB0
 obtain⟨n1,hn1⟩:∃n1,xs.length=n1+1:=⟨xs.length-1,by omega⟩
 have HN:=Lib.hid hn1
 rw[hn1]at Hs i1 i2 i4 hcap ⊢
 clear hn hn1
 simp only[Nat.add_sub_cancel]
 intro m b W hI K hK
 obtain⟨hds,i,x,him,hxm,hmax,hB,hfit⟩:=hI
 obtain⟨f,hf⟩:=ftA hfit
 rw[hds]at hf
 subst hf
 clear hfit hds
 simp only[fillP,Nat.reduceAdd]
 have HB:=Lib.hid hB
 have hb0:=hB.b0.lt
 by_cases hlt:i<n1
 ·obtain⟨rb',ro',y,hA,hrb',hy,g0,g1⟩:=(Hs.out.later hB.bel).ltCh (show i+1<n1+1 by omega)
  simp only[Option.some.injEq,Addr.mk.injEq,and_true]at hA
  obtain⟨rfl,rfl⟩:=hA
  rw[show ro+(i+1)*2=ro+2+i*2 by omega]at g0 g1
  have j1:(i:Int)<(n1:Int):=by omega
  have j2:(0:Int)<=(i:Int):=by omega
  have j3:IntKind.i64.wrap ((i:Int)+1)=(i:Int)+1:=by rw[IntKind.wrap_i64];omega
  have hal:=balloc (brefl W) (.cells #[.slice y.A y.n y.c,.int .i64 y.v] 406)
  have hnb:Blk (W.alloc (.cells #[.slice y.A y.n y.c,.int .i64 y.v] 406)) W.heap.size 406 #[.slice y.A y.n y.c,.int .i64 y.v]:=Blk.new _ _ _
  have hB1:=hB.later hal
  have HB1:=Lib.hid hB1
  have Hnb:=Lib.hid hnb
  have c0:=hB1.b1.cell 0
  have c1:=hB1.b1.cell 1
  have c2:=hB1.b1.lt
  have Hy:=Lib.hid hy
  have Hxm:=Lib.hid hxm
  clear hB HB hy hal hnb hB1
  go_wp2_with fail
  refine(chCmp_any y x _).mono ?_
  rintro e w1⟨rfl,hb1⟩
  have hB2:=HB1.out.later hb1
  have hn2:=Hnb.out.later hb1
  have d0:=hn2.cell 0
  have d1:=hn2.cell 1
  have d2:=hn2.lt
  have e2:=hB2.b1.lt
  have e3:=hB2.b1.frozen 0
  have e4:=hB2.b1.frozen 1
  have e5:=hB2.b1.cell 0
  have e6:=hB2.b1.cell 1
  have HB2:=Lib.hid hB2
  clear hb1 hB2 hn2 c0 c1 c2
  cases hq:gtB y x with
  |true=>
   have Hq:=Lib.hid (show x.v<y.v from of_decide_eq_true hq)
   have HB3:=Lib.hid (HB2.out.set y)
   clear hq
   go_wp2
   refine hK _ _ (m-1) (by omega) ⟨rfl,i+1,y,by omega,Lib.hid (List.mem_of_getElem? Hy.out),Lib.hid (λj z hj hz=>?_),HB3.out,?_⟩
   ·by_cases e:j=i+1
    ·subst e;rw[Hy.out]at hz;cases hz;exact Int.le_refl _
    ·have h1:=hmax.out j z (by omega) hz;have:=Hq.out;omega
   ·repeat (first|exact ftL|refine ftN ?_|refine ftS ?_)
  |false=>
   have Hq:=Lib.hid (show¬x.v<y.v from of_decide_eq_false hq)
   clear hq
   go_wp2
   refine hK _ _ (m-1) (by omega) ⟨rfl,i+1,x,by omega,Hxm,Lib.hid (λj z hj hz=>?_),HB2.out,?_⟩
   ·by_cases e:j=i+1
    ·subst e;rw[Hy.out]at hz;cases hz;have:=Hq.out;omega
    ·exact hmax.out j z (by omega) hz
   ·repeat (first|exact ftL|refine ftN ?_|refine ftS ?_)
 ·obtain rfl:i=n1:=by omega
  have c0:=hB.b1.cell 0
  have c1:=hB.b1.cell 1
  have c2:=hB.b1.lt
  have HE:=Lib.hid (show∀y∈xs,y.v<=x.v fromλy hy=>by
   obtain⟨j,hj⟩:=List.getElem?_of_mem hy
   exact hmax.out j y (by have:=(List.getElem?_eq_some_iff.1 hj).1;rw[HN.out]at this;omega) hj)
  have b1:=hB.b0.frozen 0
  have b2:=hB.b0.frozen 1
  have b3:=hB.b0.cell 0
  have b4:=hB.b0.cell 1
  have HM:=Lib.hid hxm.out
  have HBX:=Lib.hid hB
  clear hK hB hmax
  go_wp2
  have hBX:=HBX.out
  have b5:=hBX.b0.lt
  refine bodyPost_ret (v:=.agg #[.slice x.A x.n x.c,.int .i64 x.v]) ?_ rfl ⟨⟨x,HM.out,rfl,HE.out⟩,(HBX.out.bel.setCell (by show w.heap.size<=w.heap.size;omega) _).setCell (by show w.heap.size<=w.heap.size;omega) _⟩
  have e0:((W.setCell ⟨w.heap.size,0,none⟩ (.slice x.A x.n x.c)).setCell ⟨w.heap.size,1,none⟩ (.int .i64 x.v)).cell? ⟨w.heap.size,0,none⟩=some (.slice x.A x.n x.c):=by
   rw[((hBX.b0.set 0 _).set 1 _).cell 0];rfl
  have e1:((W.setCell ⟨w.heap.size,0,none⟩ (.slice x.A x.n x.c)).setCell ⟨w.heap.size,1,none⟩ (.int .i64 x.v)).cell? ⟨w.heap.size,1,none⟩=some (.int .i64 x.v):=by
   rw[((hBX.b0.set 0 _).set 1 _).cell 1];rfl
  simp[results,Tryz.results344,go_sem,e0,e1]
end Go.Proofs.YtifehdoghfnhoaaGreatDoor
namespace Go.Proofs.YtifehdoghfnhoaaGreatDoor
open Go.RowKit Go.Shelf Go.Maps
attribute [local go_sem] Oper.semAt_some
structure PM(w W:World)(g:Nat)(L:Int)(A:Option Addr)(c:Nat)(rs:List Rg)(n:Nat)(S:Rg->Prop):Prop where
 fv:FV w W w.heap.size g L A rs.length c
 b2:Blk W (w.heap.size+1+1) 400 #[.map (some (w.heap.size+1))]
 own:∃D:DM,OwnsM W (w.heap.size+1) n D/\MapIs D S (needP L rs)
section
variable{w W W':World}{g:Nat}{L:Int}{A:Option Addr}{c:Nat}{rs:List Rg}{n:Nat}{S S':Rg->Prop}
theorem FV.kept{N nn:Nat}{B:Nat}(h:FV w W N g L A nn c)(hk:Kept B W W')(hB:N<=B):FV w W' N g L A nn c:=
 ⟨h.bel.trans ⟨hk.os,hk.tape,hk.output,hk.size,λi hi=>hk.low i (by omega) (by have:=h.b0.lt;omega)⟩,h.b0.kept hk,h.v0.kept hk⟩
theorem PM.later(h:PM w W g L A c rs n S)(hb:Below W.heap.size W W'):PM w W' g L A c rs n S:=by
 obtain⟨D,h1,h2⟩:=h.own
 exact⟨h.fv.later hb,h.b2.later hb,D,h1.kept (grown_none hb) (by simp),h2⟩
theorem PM.kept{B:Nat}(h:PM w W g L A c rs n S)(hk:Kept B W W')(hB:w.heap.size+1+1<=B):PM w W' g L A c rs n S:=by
 obtain⟨D,⟨es,clock,hb,F,hs,hD⟩,h2⟩:=h.own
 have hlt:=(Array.getElem?_eq_some_iff.1 hb).1
 exact⟨h.fv.kept hk (by omega),h.b2.kept hk,D,⟨es,clock,(hk.low _ (by omega) hlt).trans hb,F,hs,hD⟩,h2⟩
theorem PM.congr(h:PM w W g L A c rs n S)(hS:∀r,S r↔S' r):PM w W g L A c rs n S':=by
 obtain⟨D,h1,h2⟩:=h.own
 exact⟨h.fv,h.b2,D,h1,h2.congr hS⟩
theorem PM.cells(h:PM w W g L A c rs n S):W.cell? ⟨w.heap.size,0,none⟩=some (.pointer (some ⟨g,0,none⟩))/\W.cell? ⟨w.heap.size+1+1,0,none⟩=some (.map (some (w.heap.size+1)))/\w.heap.size+1+1<W.heap.size/\w.heap.size<W.heap.size:=⟨h.fv.b0.cell 0,h.b2.cell 0,h.b2.lt,h.fv.b0.lt⟩
theorem PM.put(h:PM w W g L A c rs n S)(hgl:g<w.heap.size)(hn:n<=1000)(r:Rg)(hr:smallR r)(hw:0<=needP L rs r/\needP L rs r<=1000000):
 ∃W',(Instr.mapUpdate 400 (.map (some (w.heap.size+1))) (.agg #[.int .i64 r.lo,.int .i64 r.hi]) (.int .i64 (needP L rs r))).run Tryz.prog W=.ok () W'/\PM w W' g L A c rs (n+1) (λs=>S s\/s=r)/\W.grownBy W' (some (w.heap.size+1)):=by
 obtain⟨D,h1,h2⟩:=h.own
 obtain⟨W',hr,ho,hg⟩:=h1.update keyed_rg und_mrg (by simp only[maxLen];omega) (keyR_of r hr) (elem_val _ (wf_mid _ hw.1 hw.2))
 exact⟨W',hr,⟨h.fv.grown hg (by omega) (by omega),h.b2.grown hg (by simp),_,ho,h2.put r ‹_›⟩,hg⟩
end
theorem need_le{L:Int}{rs:List Rg}(hL:1<=L/\L<=10)(hr:RsOk rs)(r:Rg):0<=needP L rs r/\needP L rs r<=1010:=by
 have h1:=List.countP_le_length (p:=inWd r) (l:=rs)
 have h2:=hr.1
 obtain⟨_,_,_,_,_,u0,u1⟩:=upI_facts hL (x:=((rs.countP (inWd r):Nat):Int)) (by omega)
 exact⟨u0,u1⟩
theorem wins_small{rs:List Rg}(hr:RsOk rs){r:Rg}(h:r∈winsL rs):0<=r.lo/\r.lo<=r.hi/\r.hi<=100:=by
 obtain⟨a,b,ha,hb,hle,rfl⟩:=winsL_iff.1 h
 have h1:=hr.2 a ha
 have h2:=hr.2 b hb
 exact⟨h1.1,hle,h2.2.2⟩
theorem wins_key{rs:List Rg}(hr:RsOk rs){r:Rg}(h:r∈winsL rs):smallR r:=by
 have h1:=wins_small hr h
 unfold smallR;omega
structure PR(w W:World)(g:Nat)(L:Int)(A:Option Addr)(c:Nat)(rs:List Rg)(r:Nat)(D:DM)(left:Lit->Bool):Prop where
 fv:FV w W w.heap.size g L A rs.length c
 b2:Blk W (w.heap.size+1+1) 400 #[.map (some (w.heap.size+1))]
 is:MapIs D (λs=>s∈winsL rs/\(left (keyR s)=true\/needP L rs s≠0)) (needP L rs)
 has:∀z,left z=true->has D z=true
 rl:w.heap.size+1+1<r
section
variable{w W W':World}{g:Nat}{L:Int}{A:Option Addr}{c:Nat}{rs:List Rg}{r:Nat}{D:DM}{left:Lit->Bool}
theorem PR.later(h:PR w W g L A c rs r D left)(hb:Below W.heap.size W W'):PR w W' g L A c rs r D left:=⟨h.fv.later hb,h.b2.later hb,h.is,h.has,h.rl⟩
theorem PR.cells(h:PR w W g L A c rs r D left):W.cell? ⟨w.heap.size,0,none⟩=some (.pointer (some ⟨g,0,none⟩))/\W.cell? ⟨w.heap.size+1+1,0,none⟩=some (.map (some (w.heap.size+1)))/\w.heap.size+1+1<W.heap.size/\w.heap.size<W.heap.size:=⟨h.fv.b0.cell 0,h.b2.cell 0,h.b2.lt,h.fv.b0.lt⟩
theorem PR.grown(h:PR w W g L A c rs r D left)(hgl:g<w.heap.size)(hg:W.grownBy W' (some r)):PR w W' g L A c rs r D left:=by
 have hrl:=h.rl
 exact⟨h.fv.grown hg (by omega) (by omega),h.b2.grown hg (by simp;omega),h.is,h.has,hrl⟩
theorem PR.stay(h:PR w W g L A c rs r D left){s:Rg}(hs:needP L rs s≠0)(hk:smallR s):PR w W g L A c rs r D (λz=>left z&&!z.sameKey (keyR s)):=by
 refine⟨h.fv,h.b2,h.is.congr (λs'=>?_),λz hz=>h.has z (by simp at hz;exact hz.1),h.rl⟩
 by_cases e:s'=s
 ·subst e
  exact⟨λhh=>⟨hh.1,.inr hs⟩,λhh=>⟨hh.1,.inr hs⟩⟩
 ·constructor
  ·rintro⟨h0,h1⟩
   have hsm:=h.is.small s' ⟨h0,h1⟩
   refine⟨h0,h1.imp_left λh1=>?_⟩
   have hne:keyR s'≠keyR s:=λe'=>e (keyR_inj hsm hk e')
   simp[h1,sameKey_ne hne]
  ·rintro⟨h0,h1⟩
   exact⟨h0,h1.imp_left λh1=>by simp at h1;exact h1.1⟩
theorem PR.gone(h:PR w W g L A c rs r D left)(hgl:g<w.heap.size)(hg:W.grownBy W' (some (w.heap.size+1))){s:Rg}(hs:needP L rs s=0)(hk:smallR s):PR w W' g L A c rs r (D.del (keyR s)) (λz=>left z&&!z.sameKey (keyR s)):=by
 have hself:(keyR s).sameKey (keyR s)=true:=WideAt.sameKey_self (keyed_rg.key (keyR_of s hk))
 refine⟨h.fv.grown hg (by omega) (by omega),h.b2.grown hg (by simp),(h.is.del s hk).congr (λs'=>?_),λz hz=>?_,h.rl⟩
 ·by_cases e:s'=s
  ·subst e
   constructor
   ·exactλhh=>absurd rfl hh.2
   ·rintro⟨h0,h1|h1⟩
    ·simp[hself]at h1
    ·exact absurd hs h1
  ·constructor
   ·rintro⟨⟨h0,h1⟩,_⟩
    have hsm:=h.is.small s' ⟨h0,h1⟩
    refine⟨h0,h1.imp_left λh1=>?_⟩
    have hne:keyR s'≠keyR s:=λe'=>e (keyR_inj hsm hk e')
    simp[h1,sameKey_ne hne]
   ·rintro⟨h0,h1⟩
    exact⟨⟨h0,h1.imp_left λh1=>by simp at h1;exact h1.1⟩,e⟩
 ·simp at hz
  have hne:z≠keyR s:=λe=>by subst e;rw[hself]at hz;simp at hz
  rw[has_del_other hne]
  exact h.has z hz.1
end
end Go.Proofs.YtifehdoghfnhoaaGreatDoor
namespace Go.Proofs.YtifehdoghfnhoaaGreatDoor
open Go.RowKit Go.Shelf Go.Maps
def LA(rs:List Rg)(L:Nat)(j:Nat):Int:=Fill.leastAt Rg.lo Rg.hi L rs j j
theorem least_low(rs:List Rg)(L:Nat):∀n j,j<=n->Fill.leastAt Rg.lo Rg.hi L rs n j=LA rs L j
 |0,j,h=>by obtain rfl:j=0:=by omega
            rfl
 |n+1,j,h=>by
  by_cases e:j=n+1
  ·subst e;rfl
  ·have h1:=least_low rs L n j (by omega)
   rw[<-h1]
   conv=>lhs;unfold Fill.leastAt
   rw[if_neg e]
theorem need_eq(rs:List Rg)(L:Nat)(r:Rg):Fill.needW Rg.lo Rg.hi L rs r.lo r.hi=needP (L:Int) rs r:=rfl
theorem wins_eq(rs:List Rg){r:Rg}(h:r∈winsL rs):(r.lo,r.hi)∈Fill.windowsP Rg.lo Rg.hi rs:=by
 obtain⟨a,b,ha,hb,hle,rfl⟩:=winsL_iff.1 h
 unfold Fill.windowsP
 simp only[List.mem_flatMap,List.mem_map,List.mem_filter,decide_eq_true_eq]
 exact⟨a,ha,b,⟨hb,hle⟩,rfl⟩
theorem eq_wins(rs:List Rg){p:Int×Int}(h:p∈Fill.windowsP Rg.lo Rg.hi rs):(⟨p.1,p.2⟩:Rg)∈winsL rs:=by
 unfold Fill.windowsP at h
 simp only[List.mem_flatMap,List.mem_map,List.mem_filter,decide_eq_true_eq]at h
 obtain⟨a,ha,b,⟨hb,hle⟩,rfl⟩:=h
 exact winsL_iff.2 ⟨a,b,ha,hb,hle,rfl⟩
theorem la_succ(rs:List Rg)(L h:Nat):LA rs L (h+1)=Fill.leastStep Rg.lo Rg.hi L rs (Fill.windowsP Rg.lo Rg.hi rs) (Fill.leastAt Rg.lo Rg.hi L rs h) h (LA rs L h):=by
 unfold LA
 conv=>lhs;unfold Fill.leastAt
 rw[if_pos rfl]
theorem la_mono1(rs:List Rg)(L h:Nat):LA rs L h<=LA rs L (h+1):=by
 rw[la_succ];exact(Fill.step_le Rg.lo Rg.hi L rs _ h _ _).1
theorem la_mono(rs:List Rg)(L:Nat){i j:Nat}(h:i<=j):LA rs L i<=LA rs L j:=by
 induction j with
 |zero=>obtain rfl:i=0:=by omega
        exact Int.le_refl _
 |succ j ih=>
  by_cases e:i=j+1
  ·subst e;exact Int.le_refl _
  ·exact Int.le_trans (ih (by omega)) (la_mono1 rs L j)
theorem la_win{rs:List Rg}(hr:RsOk rs)(L:Nat){r:Rg}(h:r∈winsL rs):LA rs L r.lo.toNat+needP (L:Int) rs r<=LA rs L (r.hi.toNat+1):=by
 obtain⟨h1,h2,h3⟩:=wins_small hr h
 rw[la_succ]
 have h4:=(Fill.step_le Rg.lo Rg.hi L rs (Fill.leastAt Rg.lo Rg.hi L rs r.hi.toNat) r.hi.toNat (Fill.windowsP Rg.lo Rg.hi rs) (LA rs L r.hi.toNat)).2 _ (wins_eq rs h) (by simp;omega)
 rw[need_eq,least_low rs L _ _ (by simp;omega)]at h4
 exact h4
theorem la_or{rs:List Rg}(hr:RsOk rs)(L h:Nat):LA rs L (h+1)=LA rs L h\/∃r∈winsL rs,r.hi=(h:Int)/\LA rs L (h+1)=LA rs L r.lo.toNat+needP (L:Int) rs r:=by
 rcases Fill.step_or Rg.lo Rg.hi L rs (Fill.leastAt Rg.lo Rg.hi L rs h) h (Fill.windowsP Rg.lo Rg.hi rs) (LA rs L h)with h1|⟨p,hp,h2,h3⟩
 ·exact .inl (by rw[la_succ];exact h1)
 ·refine .inr ⟨⟨p.1,p.2⟩,eq_wins rs hp,h2,?_⟩
  obtain⟨h4,h5,h6⟩:=wins_small hr (eq_wins rs hp)
  rw[la_succ,h3,least_low rs L _ _ (by simp at h4 h5 ⊢;omega)]
  rfl
theorem la_zero(rs:List Rg)(L:Nat):LA rs L 0=0:=rfl
theorem la_nonneg(rs:List Rg)(L j:Nat):0<=LA rs L j:=by have:=la_mono rs L (Nat.zero_le j);rw[la_zero]at this;exact this
theorem la_bound{rs:List Rg}(hr:RsOk rs){L:Nat}(hL:1<=L/\L<=10):∀j:Nat,LA rs L j<=1010*(j:Int)
 |0=>by rw[la_zero];omega
 |j+1=>by
  have ih:=la_bound hr hL j
  rcases la_or hr L j with e|⟨r,hw,hh,e⟩
  ·rw[e];omega
  ·have h1:=need_le (L:=(L:Int)) (by omega) hr r
   obtain⟨a0,a1,a2⟩:=wins_small hr hw
   have h2:=la_mono rs L (show r.lo.toNat<=j by omega)
   rw[e];omega
theorem countP_disj{α:Type}{p q:α->Bool}:∀l:List α,(∀x∈l,¬(p x=true/\q x=true))->l.countP (λx=>p x||q x)=l.countP p+l.countP q
 |[],_=>rfl
 |x::l,h=>by
  have ih:=countP_disj l (λy hy=>h y (by simp[hy]))
  have hx:=h x (by simp)
  rw[List.countP_cons,List.countP_cons,List.countP_cons,ih]
  cases hp:p x<;>cases hq:q x<;>simp_all<;>omega
theorem chain_len{rs:List Rg}{L:Int}(hL:1<=L)(hlh:∀x∈rs,x.lo<=x.hi):∀ws:List Rg,(∀r∈ws,needP L rs r≠0)->ws.Pairwise (λa b=>a.hi<b.lo)->ws.length<=rs.countP (λx=>ws.any λr=>inWd r x)
 |[],_,_=>by simp
 |r::ws,hn,hp=>by
  rw[List.pairwise_cons]at hp
  have ih:=chain_len hL hlh ws (λs hs=>hn s (by simp[hs])) hp.2
  have h1:1<=rs.countP (inWd r):=by
   refine Nat.one_le_iff_ne_zero.2 λh0=>hn r (by simp) ?_
   unfold needP
   rw[h0]
   unfold upI
   exact Int.ediv_eq_zero_of_lt (by simp;omega) (by simp;omega)
  have h2:=countP_disj (p:=inWd r) (q:=λx=>ws.any λr=>inWd r x) rs (λx hx h=>by
   obtain⟨s,hs,hs2⟩:=List.any_eq_true.1 h.2
   have h3:=h.1
   have h4:=hp.1 s hs
   have h5:=hlh x hx
   unfold inWd at h3 hs2
   simp at h3 hs2
   omega)
  simp only[List.any_cons,List.length_cons]
  rw[h2]
  omega
structure ChainOk(rs:List Rg)(L:Int)(h:Nat)(ws:List Rg)(v:Int):Prop where
 win:∀r∈ws,r∈winsL rs/\needP L rs r≠0
 hi:∀r∈ws,r.hi<(h:Int)
 pw:ws.Pairwise λa b=>a.hi<b.lo
 sum:v=(ws.map (needP L rs)).sum
theorem ChainOk.nil(rs:List Rg)(L:Int)(h:Nat):ChainOk rs L h [] 0:=⟨by simp,by simp,List.Pairwise.nil,rfl⟩
theorem ChainOk.up{rs:List Rg}{L:Int}{h h':Nat}{ws:List Rg}{v:Int}(c:ChainOk rs L h ws v)(hh:h<=h'):ChainOk rs L h' ws v:=⟨c.win,λr hr=>by have:=c.hi r hr;omega,c.pw,c.sum⟩
theorem ChainOk.snoc{rs:List Rg}{L:Int}{ws:List Rg}{v:Int}{r:Rg}(hlo:0<=r.lo)(c:ChainOk rs L r.lo.toNat ws v)(hr:r∈winsL rs)(hn:needP L rs r≠0){h:Nat}(hh:r.hi=(h:Int))(hlh:r.lo<=r.hi):ChainOk rs L (h+1) (ws++[r]) (v+needP L rs r):=by
 refine⟨λs hs=>?_,λs hs=>?_,?_,?_⟩
 ·rcases List.mem_append.1 hs with h1|h1
  ·exact c.win s h1
  ·obtain rfl:=List.mem_singleton.1 h1;exact⟨hr,hn⟩
 ·rcases List.mem_append.1 hs with h1|h1
  ·have:=c.hi s h1;omega
  ·obtain rfl:=List.mem_singleton.1 h1;omega
 ·refine List.pairwise_append.2 ⟨c.pw,List.pairwise_singleton _ _,λa ha b hb=>?_⟩
  obtain rfl:=List.mem_singleton.1 hb
  have:=c.hi a ha;omega
 ·rw[List.map_append,List.sum_append,<-c.sum];simp
theorem flat_get{α:Type}{enc:α->List Value}{k:Nat}(hk:∀x,(enc x).length=k):∀(xs:List α)(i:Nat)(x:α),xs[i]? =some x->∀j u,(enc x)[j]? =some u->(xs.flatMap enc)[i*k+j]? =some u
 |[],i,x,h,_,_,_=>by simp at h
 |y::xs,0,x,h,j,u,hu=>by
  obtain rfl:y=x:=by simpa using h
  have:=(List.getElem?_eq_some_iff.1 hu).1
  rw[List.flatMap_cons,Nat.zero_mul,Nat.zero_add,List.getElem?_append_left this,hu]
 |y::xs,i+1,x,h,j,u,hu=>by
  have h1:=flat_get hk xs i x (by simpa using h) j u hu
  rw[List.flatMap_cons,List.getElem?_append_right (by rw[hk,Nat.add_mul];omega),hk,Nat.add_mul,Nat.one_mul,show i*k+k+j-k=i*k+j by omega]
  exact h1
theorem own_slG{α:Type}{enc:α->List Value}{k:Nat}(hk:∀x,(enc x).length=k){W:World}{base n:Nat}{e:TypeId}{v:Value}{xs:List α}(h:W.ownsRow base e k v n (xs.flatMap enc))(hx:xs.length=n):
 ∃A c,v=.slice A n c/\Sl k enc W W.heap.size A n c xs:=by
 rcases h.2 with⟨rfl,rfl⟩|⟨g,cap,cur,rfl,hb,hg,hc,hm,hs,ht⟩
 ·exact⟨none,0,rfl,hx,Nat.le_refl _,by omega,λh=>by omega⟩
 ·refine⟨_,cap,rfl,hx,hc,by simp only[maxLen]at hm;omega,λ_=>⟨g,0,rfl,(Array.getElem?_eq_some_iff.1 hg).1,λi x hi j u hu=>?_⟩⟩
  have h1:=flat_get hk xs i x hi j u hu
  rw[<-ht]at h1
  have h2:=(List.getElem?_eq_some_iff.1 h1).1
  rw[List.getElem?_take_of_lt (by simp at h2;omega)]at h1
  simp only[World.cell?,hg,Nat.zero_add]
  simpa using h1
def uArr(F:Nat->Ch):Array Value:=((List.range 204).map λo=>if o % 2=0 then(F (o / 2)).sl else .int .i64 (F (o / 2)).v).toArray
def updF(F:Nat->Ch)(j:Nat)(x:Ch):Nat->Ch:=λk=>if k=j then x else F k
theorem uArr_sl(F:Nat->Ch){j:Nat}(h:j<102):(uArr F)[j*2]? =some (F j).sl:=by
 unfold uArr
 simp only[List.getElem?_toArray,List.getElem?_map]
 rw[List.getElem?_range (by omega)]
 simp
theorem uArr_v(F:Nat->Ch){j:Nat}(h:j<102):(uArr F)[j*2+1]? =some (.int .i64 (F j).v):=by
 unfold uArr
 simp only[List.getElem?_toArray,List.getElem?_map]
 rw[List.getElem?_range (by omega)]
 simp only[Option.map_some,show¬(j*2+1) % 2=0 by omega,if_false,show(j*2+1) / 2=j by omega]
theorem uArr_set(F:Nat->Ch)(j:Nat)(x:Ch):((uArr F).setIfInBounds (j*2) x.sl).setIfInBounds (j*2+1) (.int .i64 x.v)=uArr (updF F j x):=by
 unfold uArr
 rw[List.setIfInBounds_toArray,List.setIfInBounds_toArray]
 congr 1
 apply List.ext_getElem
 ·simp
 ·intro o h1 h2
  have ho:o<204:=by simpa using h2
  simp only[List.getElem_set,List.getElem_map,List.getElem_range]
  by_cases e1:j*2+1=o
  ·subst e1
   simp only[if_true,show¬(j*2+1) % 2=0 by omega,if_false,show(j*2+1) / 2=j by omega,updF]
  ·rw[if_neg e1]
   by_cases e2:j*2=o
   ·subst e2
    simp[updF]
   ·rw[if_neg e2]
    have:o / 2≠j:=by omega
    simp[updF,this]
end Go.Proofs.YtifehdoghfnhoaaGreatDoor
