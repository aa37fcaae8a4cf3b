/- Blocks that are known whole, rows of the call's own, frames that fit: general, of no chapter. · steam.isWindow and the document's: which ranges are windows. · The document's isWindow. · steam.open: the vat of a yard, or the error. · The document's NeedOf: what a window needs. · steam's vat.need: what a window needs. -/
import Derived.Test.YtifehdoghfnhoaaGreatDoorZApp
import Derived.RangeFuncNested
import Derived.RangeFuncBound
import Derived.RangeFuncCalls
import Derived.RangeFuncLeaves
import Derived.Shelf.RegionOpen
import Derived.TacticsInMore
import Derived.LoopNIn
import Derived.LoopIn
import Derived.Deep.OwnRows
import Derived.OwnWalkIn
import Derived.Scope
import Derived.Deep.LoopGhost
namespace Go.Proofs.YtifehdoghfnhoaaGreatDoor
open Go.RowKit Go.Shelf
structure Rg where
 lo:Int
 hi:Int
 deriving DecidableEq
def encR(x:Rg):List Value:=[.int .i64 x.lo,.int .i64 x.hi]
theorem Sl.ltR{w:World}{B:Nat}{A:Option Addr}{n c:Nat}{xs:List Rg}(h:Sl 2 encR w B A n c xs){i:Nat}(hi:i<n):∃b o x,A=some ⟨b,o,none⟩/\b<B/\xs[i]? =some x/\w.cell? ⟨b,o+i*2,none⟩=some (.int .i64 x.lo)/\w.cell? ⟨b,o+i*2+1,none⟩=some (.int .i64 x.hi):=by
 obtain⟨b,o,x,hA,hB,hx,hc⟩:=h.lt hi
 exact⟨b,o,x,hA,hB,hx,by simpa using hc 0 _ rfl,by simpa using hc 1 _ rfl⟩
end Go.Proofs.YtifehdoghfnhoaaGreatDoor
namespace Go.Proofs.YtifehdoghfnhoaaGreatDoor
open Go.RowKit Go.Shelf
set_option maxHeartbeats 400000 in
theorem indexL(g:Nat)(lb:Array Value)(eg:∀args w,(callFunc g args).run Tryz.prog w=.ok (.enter g args) w)(p:Int->Bool)(A:Option Addr)(n c:Nat)(xs:List Int)(w:World)
 (hs:Sl 1 encI w w.heap.size A n c xs)
 (hp:∀x W,x∈xs->Below w.heap.size w W->Calls Tryz.prog g (#[.int .i64 x]++lb) W λe W'=>e=.returned (.bool (p x))/\Below W.heap.size W W'):
 Calls Tryz.prog 278 #[.slice A n c,.func (.func g) #[] lb] w λe w'=>e=.returned (.int .i64 (idxB p xs 0))/\Below w.heap.size w w':=by
 have hl:=hs.len
 have hcap:=hs.cap
 have hbig:=hs.big
 have Hp:=Lib.hid hp
 clear hp
 go_enter Tryz.func278,Tryz.ntmps278
 go_wp2
 go_loopw [8] (λi wr=>∃k:Nat,k<=n/\i=.int .i64 k/\(∀j x,j<k->xs[j]? =some x->p x=false)/\Below w.heap.size w wr) (λi _=>n-(intOf i).toNat)
 case atStart=>exact⟨0,by omega,rfl,by omega,Below.refl _ _⟩
 case round=>
  obtain⟨k,hk,rfl,hno,hb⟩:=hrel
  by_cases hlt:k<n
  ·obtain⟨b,o,x,rfl,hB,hx,hc0⟩:=(hs.below hb).ltI hlt
   have Hno:=Lib.hid hno
   have Hx:=Lib.hid hx
   have Hb:=Lib.hid hb
   clear hno hx hb
   go_wp2_with (go_at_fn g;refine(Hp.out x _ (List.mem_of_getElem? Hx.out) Hb.out).mono ?_;rintro e w1 ⟨rfl,hb1⟩)
   ·have hpx:p x=true:=by assumption
    go_ret
    exact⟨ret_int (idxB_at Hno.out Hx.out hpx).symm,Below.later Hb.out hb1⟩
   ·have hpx:p x=false:=by assumption
    go_roundw
    case rel=>exact⟨k+1,by omega,by go_num,no_succ Hno.out Hx.out hpx,Below.later Hb.out hb1⟩
    case measure=>simp[intOf];omega
  ·obtain rfl:k=n:=by omega
   have Hno:=Lib.hid hno
   have Hb:=Lib.hid hb
   clear hno hb
   go_wp2
   go_ret
   exact⟨ret_int (idxB_no (by rw[hl];exact Hno.out)).symm,Hb.out⟩
set_option maxHeartbeats 400000 in
theorem containsL(g:Nat)(lb:Array Value)(eg:∀args w,(callFunc g args).run Tryz.prog w=.ok (.enter g args) w)(p:Int->Bool)(A:Option Addr)(n c:Nat)(xs:List Int)(w:World)
 (hs:Sl 1 encI w w.heap.size A n c xs)
 (hp:∀x W,x∈xs->Below w.heap.size w W->Calls Tryz.prog g (#[.int .i64 x]++lb) W λe W'=>e=.returned (.bool (p x))/\Below W.heap.size W W'):
 Calls Tryz.prog 206 #[.slice A n c,.func (.func g) #[] lb] w λe w'=>e=.returned (.bool (xs.any p))/\Below w.heap.size w w':=by
 have H:=Lib.hid (indexL g lb eg p A n c xs w hs hp)
 clear hs hp
 go_enter Tryz.func206,Tryz.ntmps206
 go_wp2_with (go_at_call 278;refine H.out.mono ?_;rintro e w1 ⟨rfl,hb1⟩)
 go_ret
 exact⟨rtB (idxB_ge p xs 0),hb1⟩
set_option maxHeartbeats 400000 in
theorem indexR(g:Nat)(lb:Array Value)(eg:∀args w,(callFunc g args).run Tryz.prog w=.ok (.enter g args) w)(p:Rg->Bool)(A:Option Addr)(n c:Nat)(xs:List Rg)(w:World)
 (hs:Sl 2 encR w w.heap.size A n c xs)
 (hp:∀x W,x∈xs->Below w.heap.size w W->Calls Tryz.prog g (#[.agg #[.int .i64 x.lo,.int .i64 x.hi]]++lb) W λe W'=>e=.returned (.bool (p x))/\Below W.heap.size W W'):
 Calls Tryz.prog 208 #[.slice A n c,.func (.func g) #[] lb] w λe w'=>e=.returned (.int .i64 (idxB p xs 0))/\Below w.heap.size w w':=by
 have hl:=hs.len
 have hcap:=hs.cap
 have hbig:=hs.big
 have Hp:=Lib.hid hp
 clear hp
 go_enter Tryz.func208,Tryz.ntmps208
 go_wp2
 go_loopw [8] (λi wr=>∃k:Nat,k<=n/\i=.int .i64 k/\(∀j x,j<k->xs[j]? =some x->p x=false)/\Below w.heap.size w wr) (λi _=>n-(intOf i).toNat)
 case atStart=>exact⟨0,by omega,rfl,by omega,Below.refl _ _⟩
 case round=>
  obtain⟨k,hk,rfl,hno,hb⟩:=hrel
  by_cases hlt:k<n
  ·obtain⟨b,o,x,rfl,hB,hx,hc0,hc1⟩:=(hs.below hb).ltR hlt
   have Hno:=Lib.hid hno
   have Hx:=Lib.hid hx
   have Hb:=Lib.hid hb
   clear hno hx hb
   go_wp2_with (go_at_fn g;refine(Hp.out x _ (List.mem_of_getElem? Hx.out) Hb.out).mono ?_;rintro e w1 ⟨rfl,hb1⟩)
   ·have hpx:p x=true:=by assumption
    go_ret
    exact⟨ret_int (idxB_at Hno.out Hx.out hpx).symm,Below.later Hb.out hb1⟩
   ·have hpx:p x=false:=by assumption
    go_roundw
    case rel=>exact⟨k+1,by omega,by go_num,no_succ Hno.out Hx.out hpx,Below.later Hb.out hb1⟩
    case measure=>simp[intOf];omega
  ·obtain rfl:k=n:=by omega
   have Hno:=Lib.hid hno
   have Hb:=Lib.hid hb
   clear hno hb
   go_wp2
   go_ret
   exact⟨ret_int (idxB_no (by rw[hl];exact Hno.out)).symm,Hb.out⟩
set_option maxHeartbeats 400000 in
theorem containsR(g:Nat)(lb:Array Value)(eg:∀args w,(callFunc g args).run Tryz.prog w=.ok (.enter g args) w)(p:Rg->Bool)(A:Option Addr)(n c:Nat)(xs:List Rg)(w:World)
 (hs:Sl 2 encR w w.heap.size A n c xs)
 (hp:∀x W,x∈xs->Below w.heap.size w W->Calls Tryz.prog g (#[.agg #[.int .i64 x.lo,.int .i64 x.hi]]++lb) W λe W'=>e=.returned (.bool (p x))/\Below W.heap.size W W'):
 Calls Tryz.prog 108 #[.slice A n c,.func (.func g) #[] lb] w λe w'=>e=.returned (.bool (xs.any p))/\Below w.heap.size w w':=by
 have H:=Lib.hid (indexR g lb eg p A n c xs w hs hp)
 clear hs hp
 go_enter Tryz.func108,Tryz.ntmps108
 go_wp2_with (go_at_call 208;refine H.out.mono ?_;rintro e w1 ⟨rfl,hb1⟩)
 go_ret
 exact⟨rtB (idxB_ge p xs 0),hb1⟩
end Go.Proofs.YtifehdoghfnhoaaGreatDoor
namespace Go.Proofs.YtifehdoghfnhoaaGreatDoor
open Go.RowKit Go.Shelf
def outB(lo hi x:Int):Bool:=decide (x<lo)||decide (hi<x)
@[irreducible] def outR (lo hi x:Int):Bool:=outB lo hi x
theorem outR_eq(lo hi x:Int):outR lo hi x=outB lo hi x:=by unfold outR;rfl
set_option maxHeartbeats 400000 in
theorem withinC(B1 B2:Nat)(lo hi x:Int)(w:World)(h1:w.cell? ⟨B1,0,none⟩=some (.int .i64 lo))(h2:w.cell? ⟨B2,0,none⟩=some (.int .i64 hi)):
 Calls Tryz.prog 207 #[.int .i64 x,.pointer (some ⟨B1,0,none⟩),.pointer (some ⟨B2,0,none⟩)] w λe w'=>e=.returned (.bool (outR lo hi x))/\Below w.heap.size w w':=by
 have H:=Lib.hid (outR_eq lo hi x)
 by_cases c1:x<lo
 ·go_enter Tryz.func207,Tryz.ntmps207
  go_wp2
  go_ret
  exact⟨rtB (by rw[H.out];simp[outB,c1]),Below.refl _ _⟩
 ·by_cases c2:hi<x
  ·go_enter Tryz.func207,Tryz.ntmps207
   go_wp2
   go_ret
   exact⟨rtB (by rw[H.out];simp[outB,c2]),Below.refl _ _⟩
  ·go_enter Tryz.func207,Tryz.ntmps207
   go_wp2
   go_ret
   exact⟨rtB (by rw[H.out];simp[outB,c1,c2]),Below.refl _ _⟩
set_option maxHeartbeats 400000 in
theorem within_any(lo hi:Int)(A:Option Addr)(n c:Nat)(xs:List Int)(w:World)(hs:Sl 1 encI w w.heap.size A n c xs):
 Calls Tryz.prog 107 #[.int .i64 lo,.int .i64 hi,.slice A n c] w λe w'=>e=.returned (.bool (!(xs.any (outR lo hi))))/\Below w.heap.size w w':=by
 have Hs:=Lib.hid hs
 clear hs
 go_enter Tryz.func107,Tryz.ntmps107
 go_wp2_with (go_at_call 206;refine(containsL 207 #[.pointer (some ⟨w.heap.size,0,none⟩),.pointer (some ⟨w.heap.size+1,0,none⟩)] (enters_of Tryz.func207 (by kernel_rfl) rfl) (outR lo hi) A n c xs _ (Hs.out.later ?_) ?_).mono ?_)
 ·exact((Below.refl _ _).alloc (Nat.le_refl _) _).alloc (by simp) _
 ·intro x W _ hb
  exact withinC _ _ lo hi x W ((hb.cell (p:=⟨w.heap.size,0,none⟩) (by simp;omega)).trans (by go_simp)) ((hb.cell (p:=⟨w.heap.size+1,0,none⟩) (by simp)).trans (by go_simp))
 ·rintro e w1⟨rfl,hb1⟩
  have Hb1:=Lib.hid hb1
  clear hb1
  go_wp2
  go_ret
  exact⟨rfl,Below.later (((Below.refl _ _).alloc (Nat.le_refl _) _).alloc (by simp) _) Hb1.out⟩
@[irreducible] def inR (lo hi x:Int):Bool:=decide (lo<=x)&&decide (x<=hi)
theorem inR_iff(lo hi x:Int):inR lo hi x=true↔lo<=x/\x<=hi:=by unfold inR;simp
theorem inR_no(lo hi x:Int):inR lo hi x=false↔x<lo\/hi<x:=by
 rw[Bool.eq_false_iff,ne_eq,inR_iff];omega
theorem inR_any(lo hi x:Int):(!([x].any (outR lo hi)))=inR lo hi x:=by
 rw[Bool.eq_iff_iff,inR_iff];simp[outR_eq,outB]
theorem Sl.one{w:World}{B b:Nat}{x:Int}(hb:b<B)(h:w.cell? ⟨b,0,none⟩=some (.int .i64 x)):Sl 1 encI w B (some ⟨b,0,none⟩) 1 1 [x]:=
 ⟨rfl,by omega,by omega,λ_=>⟨b,0,rfl,hb,λi y hy j u hu=>by
   match i,hy with
   |0,rfl=>match j,hu with
    |0,rfl=>simpa using h⟩⟩
theorem within_one(lo hi x:Int)(b:Nat)(w:World)(hb:b<w.heap.size)(h:w.cell? ⟨b,0,none⟩=some (.int .i64 x)):
 Calls Tryz.prog 107 #[.int .i64 lo,.int .i64 hi,.slice (some ⟨b,0,none⟩) 1 1] w λe w'=>e=.returned (.bool (inR lo hi x))/\Below w.heap.size w w':=
 (within_any lo hi _ _ _ [x] w (Sl.one hb h)).mono λ_ _⟨he,hw⟩=>⟨by rw[he,inR_any],hw⟩
end Go.Proofs.YtifehdoghfnhoaaGreatDoor
namespace Go.Proofs.YtifehdoghfnhoaaGreatDoor
open Go.RowKit Go.Shelf
theorem grown_none{W W':World}(h:Below W.heap.size W W'):W.grownBy W' none:=⟨h.os,h.tape,h.output,h.size,λk hk _=>h.block k hk⟩
def mark(D:Nat):Deferred:={target:=.collected D,args:=#[]}
def Marks(B:Nat)(W:World)(ds:List Deferred):Prop:=∃Ds:List Nat,ds=Ds.map mark/\Ds.Nodup/\∀D∈Ds,B<=D/\W.heap[D]? =some (.deferred (some []))
theorem Marks.nil(B:Nat)(W:World):Marks B W []:=⟨[],rfl,List.nodup_nil,by simp⟩
structure Kept(B:Nat)(W W':World):Prop where
 os:W'.os=W.os
 tape:W'.tape=W.tape
 output:W'.output=W.output
 size:W.heap.size<=W'.heap.size
 low:∀k,k<B->k<W.heap.size->W'.heap[k]? =W.heap[k]?
 cells:∀(k:Nat)(c:Array Value)(e:TypeId)(f:Nat×Nat),W.heap[k]? =some (.cells c e f)->W'.heap[k]? =some (.cells c e f)
theorem Kept.refl(B:Nat)(W:World):Kept B W W:=⟨rfl,rfl,rfl,Nat.le_refl _,λ_ _ _=>rfl,λ_ _ _ _ h=>h⟩
theorem Kept.trans{B:Nat}{X Y Z:World}(h:Kept B X Y)(k:Kept B Y Z):Kept B X Z:=
 ⟨k.os.trans h.os,k.tape.trans h.tape,k.output.trans h.output,Nat.le_trans h.size k.size,λi hB hi=>(k.low i hB (Nat.lt_of_lt_of_le hi h.size)).trans (h.low i hB hi),λi c e f hi=>k.cells i c e f (h.cells i c e f hi)⟩
theorem Kept.of_grown{B:Nat}{W W':World}{row:Option Nat}(hg:W.grownBy W' row)(hr:∀r,row=some r->B<=r/\∃o:Obj,W.heap[r]? =some o/\o.isCells=false):Kept B W W':=by
 refine⟨hg.os,hg.tape,hg.output,hg.size,λk hB hk=>hg.block k hk (λe=>?_),λk c e f hk=>?_⟩
 ·have:=(hr k e.symm).1;omega
 ·refine(hg.block k (Array.getElem?_eq_some_iff.1 hk).1 (λe'=>?_)).trans hk
  obtain⟨_,o,ho,hc⟩:=hr k e'.symm
  rw[hk]at ho;cases ho;simp[Obj.isCells]at hc
theorem leavesM_marks{P:Program}{F:Fence}{n:Nat}{fn:Func}{tmps:Array Value}{R:Ending->World->Prop}{B:Nat}:∀(ds:List Deferred)(W:World)(v:Value),Marks B W ds->
 (∀W',(results fn tmps).run P W'=.ok v W')->(∀W',Kept B W W'->R (.returned v) W')->LeavesInM F n P fn tmps R ds .returning W:=by
 intro ds
 induction ds with
 |nil=>
  intro W v _ hr hR
  exact⟨v,hr W,hR W (Kept.refl B W)⟩
 |cons d ds ih=>
  intro W v hm hr hR
  obtain⟨Ds,hds,hnd,hD⟩:=hm
  cases Ds with
  |nil=>simp at hds
  |cons D Ds=>
   simp only[List.map_cons,List.cons.injEq]at hds
   obtain⟨rfl,rfl⟩:=hds
   obtain⟨hDB,hDh⟩:=hD D (by simp)
   refine⟨by simp,.inl ⟨D,W.putObj D (.deferred none),rfl,run_takeDeferred hDh,?_⟩⟩
   have hk:Kept B W (W.putObj D (.deferred none)):=Kept.of_grown (grownBy_putObj' W D _) (λr e=>by cases e;exact⟨hDB,_,hDh,rfl⟩)
   refine ih _ v ⟨Ds,rfl,(List.nodup_cons.1 hnd).2,λE hE=>⟨(hD E (by simp[hE])).1,?_⟩⟩ hr (λW' hk'=>hR W' (hk.trans hk'))
   have hne:E≠D:=λe=>(List.nodup_cons.1 hnd).1 (e▸hE)
   rw[World.putObj_heap_other hne]
   exact(hD E (by simp[hE])).2
def Blk(W:World)(b:Nat)(t:TypeId)(cs:Array Value):Prop:=W.heap[b]? =some (.cells cs t (0,0))
section
variable{W W':World}{b:Nat}{t:TypeId}{cs:Array Value}
theorem Blk.lt(h:Blk W b t cs):b<W.heap.size:=(Array.getElem?_eq_some_iff.1 h).1
theorem Blk.cell(h:Blk W b t cs)(o:Nat):W.cell? ⟨b,o,none⟩=cs[o]? :=by simp[World.cell?,show W.heap[b]? =_ from h]
theorem Blk.frozen(h:Blk W b t cs)(o:Nat):W.frozen? ⟨b,o,none⟩=false:=by simp[World.frozen?,show W.heap[b]? =_ from h]
theorem Blk.below{B:Nat}(h:Blk W b t cs)(hb:Below B W W')(hB:b<B):Blk W' b t cs:=(hb.block b hB).trans h
theorem Blk.later(h:Blk W b t cs)(hb:Below W.heap.size W W'):Blk W' b t cs:=h.below hb h.lt
theorem Blk.alloc(h:Blk W b t cs)(o:Obj):Blk (W.alloc o) b t cs:=(Below.heap_alloc W o b h.lt).trans h
theorem Blk.new(W:World)(t:TypeId)(cs:Array Value):Blk (W.alloc (.cells cs t)) W.heap.size t cs:=World.alloc_heap_new W _
theorem Blk.other(h:Blk W b t cs){p:Addr}(hp:p.block≠b)(u:Value):Blk (W.setCell p u) b t cs:=(Below.heap_setCell W p u b (λe=>hp e.symm)).trans h
theorem Blk.set(h:Blk W b t cs)(o:Nat)(u:Value):Blk (W.setCell ⟨b,o,none⟩ u) b t (cs.setIfInBounds o u):=by
 unfold Blk at h ⊢
 simp[World.setCell,Array.getElem?_modify,h]
theorem Blk.apart{b':Nat}{t':TypeId}{cs':Array Value}(h:Blk W b t cs)(h':Blk W b' t' cs')(ht:t≠t'):b≠b':=by
 rintro rfl
 unfold Blk at h h'
 rw[h]at h'
 simp at h'
 exact ht h'.2
theorem Blk.kept{B:Nat}(h:Blk W b t cs)(hk:Kept B W W'):Blk W' b t cs:=hk.cells b cs t (0,0) h
end
theorem ftL:Fits [] []:=rfl
theorem ftS{v:Value}{ps:List (Option Value)}{l:List Value}(h:Fits ps l):Fits (some v::ps) (v::l):=⟨l,rfl,h⟩
theorem ftN{u:Value}{ps:List (Option Value)}{l:List Value}(h:Fits ps l):Fits (none::ps) (u::l):=⟨u,l,rfl,h⟩
def fillP:List (Option Value)->(Nat->Value)->Nat->List Value
 |[],_,_=>[]
 |some v::ps,f,i=>v::fillP ps f (i+1)
 |none::ps,f,i=>f i::fillP ps f (i+1)
theorem fillP_congr:∀(ps:List (Option Value))(f g:Nat->Value)(i:Nat),(∀k,i<=k->f k=g k)->fillP ps f i=fillP ps g i
 |[],_,_,_,_=>rfl
 |some _::ps,f,g,i,h=>by simp only[fillP];rw[fillP_congr ps f g (i+1) (λk hk=>h k (by omega))]
 |none::ps,f,g,i,h=>by simp only[fillP];rw[h i (Nat.le_refl _),fillP_congr ps f g (i+1) (λk hk=>h k (by omega))]
theorem fits_fillI:∀(ps:List (Option Value))(l:List Value)(i:Nat),Fits ps l->∃f:Nat->Value,l=fillP ps f i
 |[],l,i,h=>⟨λ_=>undef,h⟩
 |some v::ps,l,i,h=>by
  obtain⟨l',rfl,h'⟩:=h
  obtain⟨f,rfl⟩:=fits_fillI ps l' (i+1) h'
  exact⟨f,rfl⟩
 |none::ps,l,i,h=>by
  obtain⟨u,l',rfl,h'⟩:=h
  obtain⟨f,rfl⟩:=fits_fillI ps l' (i+1) h'
  refine⟨λk=>if k=i then u else f k,?_⟩
  simp only[fillP,if_true]
  rw[fillP_congr ps f (λk=>if k=i then u else f k) (i+1) (λk hk=>by simp[show k≠i from by omega])]
theorem ftA{ps:List (Option Value)}{a:Act}(h:Fits ps a.tmps.toList):∃f:Nat->Value,a={tmps:=(fillP ps f 0).toArray,defers:=a.defers}:=by
 obtain⟨f,hf⟩:=fits_fillI ps _ 0 h
 exact⟨f,by rw[<-hf]⟩
theorem lpn{P:Program}{Q:Exit->Act->World->Prop}{a:Act}{w:World}{c:Code}(I:Nat->Act->World->Prop)(n₀:Nat)(h₀:I n₀ a w)
 (round:∀n a w,I n a w->∀K:Act->World->Prop,(∀a' w' n',n'<n->I n' a' w'->K a' w')->c.wp P (Exit.then K Q) a w):(Code.loop c).wp P Q a w:=
 wp_loop_ghost I n₀ h₀ λn a w h=>round n a w h _ λ_ _ n' hn hi=>⟨n',hn,hi⟩
theorem Marks.kept{B:Nat}{W W':World}{ds:List Deferred}(h:Marks B W ds)(hk:∀k:Nat,∀c,W.heap[k]? =some (.deferred c)->W'.heap[k]? =some (.deferred c)):Marks B W' ds:=by
 obtain⟨Ds,h1,h2,h3⟩:=h
 exact⟨Ds,h1,h2,λD hD=>⟨(h3 D hD).1,hk D _ (h3 D hD).2⟩⟩
theorem Marks.later{B:Nat}{W W':World}{ds:List Deferred}(h:Marks B W ds)(hb:Below W.heap.size W W'):Marks B W' ds:=
 h.kept λk _ hk=>(hb.block k (Array.getElem?_eq_some_iff.1 hk).1).trans hk
theorem Marks.setCell{B:Nat}{W:World}{ds:List Deferred}(h:Marks B W ds)(p:Addr)(u:Value):Marks B (W.setCell p u) ds:=by
 refine h.kept λk c hk=>?_
 by_cases e:k=p.block
 ·subst e
  simp[World.setCell,Array.getElem?_modify,hk]
 ·exact(Below.heap_setCell W p u k e).trans hk
theorem Marks.cons{B:Nat}{W W':World}{ds:List Deferred}{D:Nat}(h:Marks B W ds)(hD:W.heap.size<=D)(hB:B<=W.heap.size)(hW:W'.heap[D]? =some (.deferred (some [])))
 (hk:∀k:Nat,∀c,k<W.heap.size->W.heap[k]? =some (.deferred c)->W'.heap[k]? =some (.deferred c)):Marks B W' (mark D::ds):=by
 obtain⟨Ds,h1,h2,h3⟩:=h
 refine⟨D::Ds,by rw[h1];rfl,List.nodup_cons.2 ⟨λhm=>?_,h2⟩,λE hE=>?_⟩
 ·have:=(Array.getElem?_eq_some_iff.1 (h3 D hm).2).1;omega
 ·rcases List.mem_cons.1 hE with rfl|hE
  ·exact⟨by omega,hW⟩
  ·exact⟨(h3 E hE).1,hk E _ (Array.getElem?_eq_some_iff.1 (h3 E hE).2).1 (h3 E hE).2⟩
theorem KeepsFrom.later{B:Nat}{W W':World}(h:Below W.heap.size W W'):KeepsFrom B W W':=KeepsFrom.of_grownBy (grown_none h) (λj e=>by cases e)
theorem Blk.grown{W W':World}{b:Nat}{t:TypeId}{cs:Array Value}{row:Option Nat}(h:Blk W b t cs)(hg:W.grownBy W' row)(hne:row≠some b):Blk W' b t cs:=
 (hg.block b h.lt (λe=>hne e.symm)).trans h
theorem Blk.notRow{W:World}{b base n size:Nat}{t e:TypeId}{cs:Array Value}{v:Value}{xs:List Value}(h:Blk W b t cs)(hown:W.ownsRow base e size v n xs)(ht:t≠e):v.ownBlock≠some b:=by
 intro hb
 rcases hown.2 with⟨rfl,_⟩|⟨g,cap,cur,rfl,_,hg,_⟩
 ·cases hb
 ·simp only[Value.ownBlock,Option.some.injEq]at hb
  subst hb
  unfold Blk at h
  rw[hg]at h
  simp at h
  exact ht h.2.symm
theorem owL{W W':World}{base size n:Nat}{e:TypeId}{v:Value}{xs:List Value}(h:W.ownsRow base e size v n xs)(hb:Below W.heap.size W W'):W'.ownsRow base e size v n xs:=by
 refine⟨h.1,?_⟩
 rcases h.2 with hn|⟨g,cap,cur,rfl,h1,hg,h2⟩
 ·exact .inl hn
 ·exact .inr ⟨g,cap,cur,rfl,h1,(hb.block g (Array.getElem?_eq_some_iff.1 hg).1).trans hg,h2⟩
theorem own_kept{W W':World}{B base size n:Nat}{e:TypeId}{v:Value}{xs:List Value}(h:W.ownsRow base e size v n xs)(hk:Kept B W W'):W'.ownsRow base e size v n xs:=by
 refine⟨h.1,?_⟩
 rcases h.2 with hn|⟨g,cap,cur,rfl,h1,hg,h2⟩
 ·exact .inl hn
 ·exact .inr ⟨g,cap,cur,rfl,h1,hk.cells g cur e (0,0) hg,h2⟩
theorem own_other{W:World}{base size n:Nat}{e:TypeId}{v:Value}{xs:List Value}(h:W.ownsRow base e size v n xs)(p:Addr)(hp:v.ownBlock≠some p.block)(u:Value):(W.setCell p u).ownsRow base e size v n xs:=by
 refine⟨h.1,?_⟩
 rcases h.2 with hn|⟨g,cap,cur,rfl,h1,hg,h2⟩
 ·exact .inl hn
 ·refine .inr ⟨g,cap,cur,rfl,h1,(Below.heap_setCell W p u g (λe=>hp (by simp[Value.ownBlock,e]))).trans hg,h2⟩
theorem own_succ{W:World}{base:Nat}{e:TypeId}{size:Nat}{v:Value}{k:Nat}{xs:List Value}(h:W.ownsRow base e size v (k+1) xs):∃g cap,v=.slice (some ⟨g,0,none⟩) (k+1) cap:=by
 rcases h.2 with⟨_,h0⟩|⟨g,cap,_,rfl,_⟩
 ·omega
 ·exact⟨g,cap,rfl⟩
theorem two_new(w:World)(x y:Value)(t:TypeId):∀j u,[x,y][j]? =some u->(w.alloc (.cells #[x,y] t)).cell? ((⟨w.heap.size,0,none⟩:Addr).add j)=some u:=by
 intro j u hu
 have hadd:(⟨w.heap.size,0,none⟩:Addr).add j=⟨w.heap.size,j,none⟩:=by unfold Addr.add;split<;>simp_all
 rw[hadd,(Blk.new w t #[x,y]).cell]
 simpa using hu
end Go.Proofs.YtifehdoghfnhoaaGreatDoor
namespace Go.Proofs.YtifehdoghfnhoaaGreatDoor
open Go.RowKit Go.Shelf
def winB(r:Rg):Bool:=(inR 0 100 r.lo&&inR 0 100 r.hi)&&decide (r.lo<=r.hi)
theorem Sl.two{w:World}{B b:Nat}{x y:Int}(hb:b<B)(h0:w.cell? ⟨b,0,none⟩=some (.int .i64 x))(h1:w.cell? ⟨b,1,none⟩=some (.int .i64 y)):Sl 1 encI w B (some ⟨b,0,none⟩) 2 2 [x,y]:=
 ⟨rfl,by omega,by omega,λ_=>⟨b,0,rfl,hb,λi z hz j u hu=>by
   match i,hz with
   |0,rfl=>match j,hu with
    |0,rfl=>simpa using h0
   |1,rfl=>match j,hu with
    |0,rfl=>simpa using h1⟩⟩
theorem two_any(a b:Int):(!([a,b].any (outR 0 100)))=(inR 0 100 a&&inR 0 100 b):=by
 rw[Bool.eq_iff_iff,Bool.and_eq_true,inR_iff,inR_iff]
 simp[outR_eq,outB]
set_option maxHeartbeats 1000000 in
theorem window_any(r:Rg)(w:World):
 Calls Tryz.prog 110 #[.agg #[.int .i64 r.lo,.int .i64 r.hi]] w λe w'=>e=.returned (.bool (winB r))/\Below w.heap.size w w':=by
 obtain⟨a,b⟩:=r
 obtain⟨q,hq⟩:∃q,(inR 0 100 a&&inR 0 100 b)=q:=⟨_,rfl⟩
 have hB:=balloc (brefl w) (.cells #[.int .i64 a,.int .i64 b] 34)
 have HB0:=Lib.hid (show Blk (w.alloc (.cells #[.int .i64 a,.int .i64 b] 34)) w.heap.size 34 #[.int .i64 a,.int .i64 b]from Blk.new w _ _)
 have HE:=Lib.hid (show winB ⟨a,b⟩=(q&&decide (a<=b))by unfold winB;rw[hq])
 have Hq:=Lib.hid hq
 clear hq
 go_enter Tryz.func110,Tryz.ntmps110
 go_wp2_with fail
 refine(within_any 0 100 (some ⟨w.heap.size+1,0,none⟩) 2 2 [a,b] _ (Sl.two (by simp) (by go_simp) (by go_simp))).mono ?_
 rintro e w1⟨rfl,hb1⟩
 rw[two_any,Hq.out]
 have hb2:=(HB0.out.alloc (.cells #[.int .i64 a,.int .i64 b] 2)).later hb1
 have c0:=hb2.cell 0
 have c1:=hb2.cell 1
 have c2:=hb2.lt
 have HB:=Lib.hid (Below.later (balloc (balloc (brefl w) (.cells #[.int .i64 a,.int .i64 b] 34)) (.cells #[.int .i64 a,.int .i64 b] 2)) hb1)
 clear hb1 hb2
 cases q
 all_goals
  go_wp2
  go_ret
  exact⟨rtB (by rw[HE.out];simp),HB.out⟩
def badR(x:Rg):Bool:=!winB x
set_option maxHeartbeats 1000000 in
theorem badR_any(x:Rg)(w:World):
 Calls Tryz.prog 109 #[.agg #[.int .i64 x.lo,.int .i64 x.hi]] w λe w'=>e=.returned (.bool (badR x))/\Below w.heap.size w w':=by
 have HB:=Lib.hid (balloc (brefl w) (.cells #[.int .i64 x.lo,.int .i64 x.hi] 34))
 go_enter Tryz.func109,Tryz.ntmps109
 go_wp2_with fail
 refine(window_any x _).mono ?_
 rintro e w1⟨rfl,hb1⟩
 have HB1:=Lib.hid (Below.later HB.out hb1)
 clear hb1
 go_wp2
 go_ret
 exact⟨rfl,HB1.out⟩
def yardE(L:Int)(rs:List Rg):Int:=if inR 1 10 L then(if(10:Int)<rs.length then 6 else if rs.any badR then 3 else 0)else 3
set_option maxHeartbeats 1000000 in
theorem checkYard_any(L:Int)(A:Option Addr)(n c:Nat)(rs:List Rg)(w:World)(hs:Sl 2 encR w w.heap.size A n c rs):
 Calls Tryz.prog 43 #[.agg #[.int .i64 L,.slice A n c]] w λe w'=>e=.returned (.int .i64 (yardE L rs))/\Below w.heap.size w w':=by
 obtain rfl:=hs.len
 have Hs:=Lib.hid hs
 obtain⟨q,hq⟩:∃q,inR 1 10 L=q:=⟨_,rfl⟩
 have HB0:=Lib.hid (show Blk (w.alloc (.cells #[.int .i64 L,.slice A rs.length c] 30)) w.heap.size 30 #[.int .i64 L,.slice A rs.length c]from Blk.new w _ _)
 have HE:=Lib.hid (show yardE L rs=if q then(if(10:Int)<rs.length then 6 else if rs.any badR then 3 else 0)else 3 by unfold yardE;rw[hq])
 have Hq:=Lib.hid hq
 clear hs hq
 go_enter Tryz.func43,Tryz.ntmps43
 go_wp2_with fail
 refine(within_one 1 10 L (w.heap.size+1) _ (by simp) (by go_simp)).mono ?_
 rintro e w1⟨rfl,hb1⟩
 rw[Hq.out]
 have hb2:=(HB0.out.alloc (.cells #[.int .i64 L] 2)).later hb1
 have c0:=hb2.cell 0
 have c1:=hb2.cell 1
 have c2:=hb2.lt
 have HB:=Lib.hid (Below.later (balloc (balloc (brefl w) (.cells #[.int .i64 L,.slice A rs.length c] 30)) (.cells #[.int .i64 L] 2)) hb1)
 clear hb1 hb2
 cases q with
 |false=>
  go_wp2
  go_ret
  exact⟨ret_int (by rw[HE.out];rfl),HB.out⟩
 |true=>
  by_cases h10:(10:Int)<(rs.length:Int)
  ·have d1:decide ((10:Int)<(rs.length:Int))=true:=by simpa using h10
   have HE2:=Lib.hid (show yardE L rs=6 by rw[HE.out,if_pos rfl,if_pos h10])
   clear h10
   go_wp2
   go_ret
   exact⟨ret_int HE2.out.symm,HB.out⟩
  ·have d1:decide ((10:Int)<(rs.length:Int))=false:=by simpa using h10
   have HE2:=Lib.hid (show yardE L rs=if rs.any badR then 3 else 0 by rw[HE.out,if_pos rfl,if_neg h10])
   clear h10
   go_wp2_with fail
   refine(containsR 109 #[] (enters_of Tryz.func109 (by kernel_rfl) rfl) badR A _ c rs _ (Hs.out.later HB.out) (λx W _ _=>badR_any x W)).mono ?_
   rintro e w2⟨rfl,hb2⟩
   have HB2:=Lib.hid (Below.later HB.out hb2)
   clear hb2
   cases hk:rs.any badR with
   |false=>
    have HE3:=Lib.hid (show yardE L rs=0 by rw[HE2.out,hk];rfl)
    clear hk
    go_wp2
    go_ret
    exact⟨ret_int HE3.out.symm,HB2.out⟩
   |true=>
    have HE3:=Lib.hid (show yardE L rs=3 by rw[HE2.out,hk];rfl)
    clear hk
    go_wp2
    go_ret
    exact⟨ret_int HE3.out.symm,HB2.out⟩
end Go.Proofs.YtifehdoghfnhoaaGreatDoor
namespace Go.Proofs.YtifehdoghfnhoaaGreatDoor
open Go.RowKit Go.Shelf
theorem win_alt(r:Rg):winB r=(decide (0<=r.lo)&&decide (r.lo<=r.hi)&&decide (r.hi<=100)):=by
 unfold winB
 rw[Bool.eq_iff_iff]
 simp only[Bool.and_eq_true,inR_iff,decide_eq_true_eq]
 omega
set_option maxHeartbeats 1000000 in
theorem refWindow_any(r:Rg)(w:World):
 Calls Tryz.prog 56 #[.agg #[.int .i64 r.lo,.int .i64 r.hi]] w λe w'=>e=.returned (.bool (winB r))/\Below w.heap.size w w':=by
 have HB:=Lib.hid (balloc (brefl w) (.cells #[.int .i64 r.lo,.int .i64 r.hi] 34))
 have HE:=Lib.hid (win_alt r)
 obtain⟨a,b⟩:=r
 simp only at HB HE ⊢
 cases h1:decide (0<=a)
 all_goals
  cases h2:decide (a<=b)
  all_goals
   cases h3:decide (b<=100)
   all_goals
    rw[h1,h2,h3]at HE
    go_enter Tryz.func56,Tryz.ntmps56
    go_wp2
    go_ret
    exact⟨rtB (by rw[HE.out];rfl),HB.out⟩
structure YB(w W:World)(L:Int)(A:Option Addr)(n c:Nat):Prop where
 bel:Below w.heap.size w W
 b0:Blk W w.heap.size 30 #[.int .i64 L,.slice A n c]
theorem YB.later{w W W':World}{L:Int}{A:Option Addr}{n c:Nat}(h:YB w W L A n c)(hb:Below W.heap.size W W'):YB w W' L A n c:=⟨Below.later h.bel hb,h.b0.later hb⟩
set_option maxRecDepth 100000 in
set_option maxHeartbeats 1000000 in
theorem refYard_any(L:Int)(A:Option Addr)(n c:Nat)(rs:List Rg)(w:World)(hs:Sl 2 encR w w.heap.size A n c rs):
 Calls Tryz.prog 30 #[.agg #[.int .i64 L,.slice A n c]] w λe w'=>e=.returned (.int .i64 (yardE L rs))/\Below w.heap.size w w':=by
 obtain rfl:=hs.len
 have Hs:=Lib.hid hs
 have HY:=Lib.hid (show YB w (w.alloc (.cells #[.int .i64 L,.slice A rs.length c] 30)) L A rs.length c from⟨balloc (brefl w) _,Blk.new w _ _⟩)
 have HB:=Lib.hid HY.out.bel
 clear hs
 by_cases h1:L<1
 ·have d1:decide (L<1)=true:=by simpa using h1
  have HE:=Lib.hid (show yardE L rs=3 by unfold yardE;rw[(inR_no 1 10 L).2 (.inl h1)];rfl)
  clear h1
  go_enter Tryz.func30,Tryz.ntmps30
  go_wp2
  go_ret
  exact⟨ret_int HE.out.symm,HB.out⟩
 have d1:decide (L<1)=false:=by simpa using h1
 by_cases h2:10<L
 ·have d2:decide (10<L)=true:=by simpa using h2
  have HE:=Lib.hid (show yardE L rs=3 by unfold yardE;rw[(inR_no 1 10 L).2 (.inr h2)];rfl)
  clear h1 h2
  go_enter Tryz.func30,Tryz.ntmps30
  go_wp2
  go_ret
  exact⟨ret_int HE.out.symm,HB.out⟩
 have d2:decide (10<L)=false:=by simpa using h2
 have hin:inR 1 10 L=true:=(inR_iff _ _ _).2 ⟨by omega,by omega⟩
 by_cases h3:(10:Int)<(rs.length:Int)
 ·have d3:decide ((10:Int)<(rs.length:Int))=true:=by simpa using h3
  have HE:=Lib.hid (show yardE L rs=6 by unfold yardE;rw[hin,if_pos rfl,if_pos h3])
  clear h1 h2 h3 hin
  go_enter Tryz.func30,Tryz.ntmps30
  go_wp2
  go_ret
  exact⟨ret_int HE.out.symm,HB.out⟩
 have d3:decide ((10:Int)<(rs.length:Int))=false:=by simpa using h3
 have HE:=Lib.hid (show yardE L rs=if rs.any badR then 3 else 0 by unfold yardE;rw[hin,if_pos rfl,if_neg h3])
 have hn10:rs.length<=10:=by omega
 clear h1 h2 h3 hin
 go_enter Tryz.func30,Tryz.ntmps30
 go_wp2_with fail
 clear d1 d2 d3
 refine lpn (λm b W=>b.defers=[]/\∃i:Nat,i+m=rs.length/\YB w W L A rs.length c/\(∀j x,j<i->rs[j]? =some x->badR x=false)/\Fits (none::some (.pointer (some ⟨w.heap.size,0,none⟩))::none::some (.int .i64 (i:Nat))::none::none::none::none::none::none::none::none::none::none::none::none::none::none::none::none::none::none::none::none::none::none::none::none::none::none::[]) b.tmps.toList) rs.length ?_ ?_
 ·refine⟨rfl,0,by omega,HY.out,λj x hj=>by omega,?_⟩
  repeat (first|exact ftL|refine ftN ?_|refine ftS ?_)
 clear HY HB
 intro m b W hI K hK
 obtain⟨hds,i,him,hY,hno,hfit⟩:=hI
 obtain⟨g,hg⟩:=ftA hfit
 rw[hds]at hg
 subst hg
 clear hfit hds
 simp only[fillP,Nat.reduceAdd]
 have c0:=hY.b0.cell 0
 have c1:=hY.b0.cell 1
 have c2:=hY.b0.lt
 have HY:=Lib.hid hY
 by_cases hlt:i<rs.length
 ·obtain⟨rb,ro,x,rfl,hrb,hx,g0,g1⟩:=(Hs.out.later hY.bel).ltR hlt
  have i1:(i:Int)<(rs.length:Int):=by omega
  have i2:(0:Int)<=(i:Int):=by omega
  have i3:IntKind.i64.wrap ((i:Int)+1)=(i:Int)+1:=by rw[IntKind.wrap_i64];omega
  have hsucc:=λh=>no_succ hno hx h
  have hbad:badR x=true->yardE L rs=3:=λh=>by rw[HE.out,if_pos (List.any_eq_true.2 ⟨x,List.mem_of_getElem? hx,h⟩)]
  have Hsucc:=Lib.hid hsucc
  have Hbad:=Lib.hid hbad
  clear hY hno hx hsucc hbad
  go_wp2_with fail
  refine(refWindow_any x _).mono ?_
  rintro e w2⟨rfl,hb2⟩
  have HY2:=Lib.hid (HY.out.later hb2)
  clear hb2
  cases hw:winB x with
  |true=>
   have HN:=Lib.hid (Hsucc.out (by unfold badR;rw[hw];rfl))
   clear hw
   go_wp2
   refine hK _ _ (m-1) (by omega) ⟨rfl,i+1,by omega,HY2.out,HN.out,?_⟩
   repeat (first|exact ftL|refine ftN ?_|refine ftS ?_)
  |false=>
   have HR:=Lib.hid (Hbad.out (by unfold badR;rw[hw];rfl))
   clear hw hK
   go_wp2
   go_ret
   exact⟨ret_int HR.out.symm,HY2.out.bel⟩
 ·obtain rfl:i=rs.length:=by omega
  have HR:=Lib.hid (show yardE L rs=0 by
   rw[HE.out,if_neg]
   intro ha
   obtain⟨x,hx,hb⟩:=List.any_eq_true.1 ha
   obtain⟨j,hj⟩:=List.getElem?_of_mem hx
   rw[hno j x (List.getElem?_eq_some_iff.1 hj).1 hj]at hb
   cases hb)
  clear hY hno hK
  go_wp2
  go_ret
  exact⟨ret_int HR.out.symm,HY.out.bel⟩
end Go.Proofs.YtifehdoghfnhoaaGreatDoor
namespace Go.Proofs.YtifehdoghfnhoaaGreatDoor
open Go.RowKit Go.Shelf
section
variable(L:Int)(A:Option Addr)(n c:Nat)(rs:List Rg)(w:World)(hs:Sl 2 encR w w.heap.size A n c rs)
include hs
set_option maxHeartbeats 1000000 in
theorem open_bad(hne:yardE L rs≠0):Calls Tryz.prog 26 #[.agg #[.int .i64 L,.slice A n c]] w λe w'=>e=.returned (.tuple #[.pointer none,.int .i64 (yardE L rs)])/\Below w.heap.size w w':=by
 obtain rfl:=hs.len
 have HY:=Lib.hid (show YB w (w.alloc (.cells #[.int .i64 L,.slice A rs.length c] 30)) L A rs.length c from⟨balloc (brefl w) _,Blk.new w _ _⟩)
 have hc:=Lib.hid (λW hb=>checkYard_any L A rs.length c rs W (hs.later (w':=W) hb))
 obtain⟨q,hq⟩:∃q,yardE L rs=q:=⟨_,rfl⟩
 rw[hq]at hc hne ⊢
 have d1:(q != 0)=true:=by simpa using hne
 clear hs hq hne
 go_enter Tryz.func26,Tryz.ntmps26
 go_wp2_with fail
 refine(hc.out _ HY.out.bel).mono ?_
 rintro e w1⟨rfl,hb1⟩
 have HY1:=Lib.hid (HY.out.later hb1)
 clear hb1
 go_wp2
 go_ret2
 exact⟨rfl,HY1.out.bel⟩
set_option maxHeartbeats 1000000 in
theorem open_ok(he:yardE L rs=0):Calls Tryz.prog 26 #[.agg #[.int .i64 L,.slice A n c]] w λe w'=>∃g,e=.returned (.tuple #[.pointer (some ⟨g,0,none⟩),.int .i64 0])/\Below w.heap.size w w'/\w.heap.size<=g/\Blk w' g 99 #[.int .i64 L,.slice A n c]:=by
 obtain rfl:=hs.len
 have HY:=Lib.hid (show YB w (w.alloc (.cells #[.int .i64 L,.slice A rs.length c] 30)) L A rs.length c from⟨balloc (brefl w) _,Blk.new w _ _⟩)
 have hc:=Lib.hid (λW hb=>checkYard_any L A rs.length c rs W (hs.later (w':=W) hb))
 rw[he]at hc
 clear hs he
 go_enter Tryz.func26,Tryz.ntmps26
 go_wp2_with fail
 refine(hc.out _ HY.out.bel).mono ?_
 rintro e w1⟨rfl,hb1⟩
 have hY1:=HY.out.later hb1
 have c0:=hY1.b0.cell 0
 have c1:=hY1.b0.cell 1
 have c2:=hY1.b0.lt
 have HY1:=Lib.hid hY1
 have HN:=Lib.hid (Blk.new w1 99 #[.int .i64 L,.slice A rs.length c])
 clear hb1 hY1
 go_wp2
 go_ret2
 exact⟨w1.heap.size,rfl,balloc HY1.out.bel _,HY1.out.bel.size,HN.out⟩
end
def upI(x L:Int):Int:=(x+L-1) / L
theorem upI_facts{x L:Int}(hL:1<=L/\L<=10)(hx:0<=x/\x<=1000):IntKind.i64.wrap (x+L)=x+L/\IntKind.i64.wrap (x+L-1)=x+L-1/\(x+L-1).tdiv L=upI x L/\L≠0/\IntKind.i64.wrap (upI x L)=upI x L/\0<=upI x L/\upI x L<=1010:=by
 have h1:(x+L-1).tdiv L=upI x L:=Int.tdiv_eq_ediv_of_nonneg (by omega)
 have h2:0<=upI x L:=Int.ediv_nonneg (by omega) (by omega)
 have h3:upI x L<=x+L-1:=Int.ediv_le_self _ (by omega)
 refine⟨by rw[IntKind.wrap_i64];omega,by rw[IntKind.wrap_i64];omega,h1,by omega,by rw[IntKind.wrap_i64];omega,h2,by omega⟩
set_option maxRecDepth 100000 in
set_option maxHeartbeats 1000000 in
theorem up_any(g:Nat)(L:Int)(A:Option Addr)(n c:Nat)(x:Int)(w:World)(hb:Blk w g 99 #[.int .i64 L,.slice A n c])(hL:1<=L/\L<=10)(hx:0<=x/\x<=1000):
 Calls Tryz.prog 342 #[.pointer (some ⟨g,0,none⟩),.int .i64 x] w λe w'=>e=.returned (.int .i64 (upI x L))/\Below w.heap.size w w':=by
 obtain⟨a1,a2,a3,a4,a5,_,_⟩:=upI_facts hL hx
 obtain⟨q,hq⟩:∃q,upI x L=q:=⟨_,rfl⟩
 rw[hq]at a3 a5 ⊢
 have c0:=hb.cell 0
 have c2:=hb.lt
 clear hb hL hx hq
 go_enter Tryz.func342,Tryz.ntmps342
 go_wp2_with fail
 refine dag 15 (by kernel_rfl) (by kernel_rfl) (.is ?_::.is ?_::.is ?_::.is ?_::.is ?_::.is ?_::.is ?_::.is ?_::.is ?_::.is ?_::.is ?_::.is ?_::.is ?_::.is ?_::.is ?_::[]) rfl ?st1 ?ob1
 case st1=>simp[Spec.ok]
 case ob1=>
  intro env W' hG
  obtain⟨hc,hf⟩:=bcell hG
  repeat (refine obI ?_ ?_;unfold dsA;go_simp;(try go_bits);(first|(refine⟨brefl _,?_⟩;rfl)|rfl);intro K hK;go_simp;refine hK _ ?_;clear hK K)
  refine obN (λ_=>?_)
  have HB:=Lib.hid hG
  clear hc hf hG
  go_wp2
  go_ret
  exact⟨rfl,HB.out⟩
set_option maxHeartbeats 1000000 in
theorem refUp_any(L x:Int)(w:World)(hL:1<=L/\L<=10)(hx:0<=x/\x<=1000):
 Calls Tryz.prog 57 #[.int .i64 x,.int .i64 L] w λe w'=>e=.returned (.int .i64 (upI x L))/\Below w.heap.size w w':=by
 obtain⟨a1,a2,a3,a4,a5,_,_⟩:=upI_facts hL hx
 obtain⟨q,hq⟩:∃q,upI x L=q:=⟨_,rfl⟩
 rw[hq]at a3 a5 ⊢
 clear hL hx hq
 go_enter Tryz.func57,Tryz.ntmps57
 go_wp2
 go_ret
 exact⟨rfl,brefl _⟩
end Go.Proofs.YtifehdoghfnhoaaGreatDoor
namespace Go.Proofs.YtifehdoghfnhoaaGreatDoor
open Go.RowKit Go.Shelf
def inWd(wd r:Rg):Bool:=decide (wd.lo<=r.lo)&&decide (r.hi<=wd.hi)
def needP(L:Int)(rs:List Rg)(wd:Rg):Int:=upI ((rs.countP (inWd wd):Nat):Int) L
theorem count_take{α:Type}{p:α->Bool}{l:List α}{i:Nat}{x:α}(hx:l[i]? =some x):(l.take (i+1)).countP p=(l.take i).countP p+if p x then 1 else 0:=by
 obtain⟨h,rfl⟩:=List.getElem?_eq_some_iff.1 hx
 rw[List.take_succ_eq_append_getElem h,List.countP_append]
 simp[List.countP_cons]
structure NW(w W:World)(L:Int)(A:Option Addr)(n c:Nat)(wd:Rg):Prop where
 bel:Below w.heap.size w W
 b0:Blk W w.heap.size 30 #[.int .i64 L,.slice A n c]
 b1:Blk W (w.heap.size+1) 34 #[.int .i64 wd.lo,.int .i64 wd.hi]
theorem NW.later{w W W':World}{L:Int}{A:Option Addr}{n c:Nat}{wd:Rg}(h:NW w W L A n c wd)(hb:Below W.heap.size W W'):NW w W' L A n c wd:=⟨Below.later h.bel hb,h.b0.later hb,h.b1.later hb⟩
set_option maxRecDepth 100000 in
set_option maxHeartbeats 2000000 in
theorem refNeed_any(L:Int)(A:Option Addr)(n c:Nat)(rs:List Rg)(wd:Rg)(w:World)(hs:Sl 2 encR w w.heap.size A n c rs)(hn:n<=100)(hL:1<=L/\L<=10):
 Calls Tryz.prog 265 #[.agg #[.int .i64 L,.slice A n c],.agg #[.int .i64 wd.lo,.int .i64 wd.hi]] w λe w'=>e=.returned (.int .i64 (needP L rs wd))/\Below w.heap.size w w':=by
 obtain rfl:=hs.len
 have Hs:=Lib.hid hs
 have hb1:=Blk.new (w.alloc (.cells #[.int .i64 L,.slice A rs.length c] 30)) 34 #[.int .i64 wd.lo,.int .i64 wd.hi]
 rw[World.size_alloc]at hb1
 have HN:=Lib.hid (show NW w ((w.alloc (.cells #[.int .i64 L,.slice A rs.length c] 30)).alloc (.cells #[.int .i64 wd.lo,.int .i64 wd.hi] 34)) L A rs.length c wd from⟨balloc (balloc (brefl w) _) _,(Blk.new w _ _).alloc _,hb1⟩)
 have HL:=Lib.hid hL
 clear hs hb1 hL
 go_enter Tryz.func265,Tryz.ntmps265
 go_wp2_with fail
 refine lpn (λm b W=>b.defers=[]/\∃(i:Nat)(k:Int),i+m=rs.length/\k=((rs.take i).countP (inWd wd):Nat)/\NW w W L A rs.length c wd/\Fits (none::none::some (.pointer (some ⟨w.heap.size,0,none⟩))::some (.pointer (some ⟨w.heap.size+1,0,none⟩))::none::some (.int .i64 k)::some (.int .i64 (i:Nat))::none::none::none::none::none::none::none::none::none::none::none::none::none::none::none::none::none::none::none::none::none::none::none::none::none::none::none::none::none::none::none::none::none::[]) b.tmps.toList) rs.length ?_ ?_
 ·refine⟨rfl,0,0,by omega,by simp,HN.out,?_⟩
  repeat (first|exact ftL|refine ftN ?_|refine ftS ?_)
 clear HN
 intro m b W hI K hK
 obtain⟨hds,i,k,him,hk,hN,hfit⟩:=hI
 obtain⟨g,hg⟩:=ftA hfit
 rw[hds]at hg
 subst hg
 clear hfit hds
 simp only[fillP,Nat.reduceAdd]
 have c0:=hN.b0.cell 0
 have c1:=hN.b0.cell 1
 have c2:=hN.b0.lt
 have d0:=hN.b1.cell 0
 have d1:=hN.b1.cell 1
 have d2:=hN.b1.lt
 have hkb:=List.countP_le_length (p:=inWd wd) (l:=rs.take i)
 have htl:(rs.take i).length<=rs.length:=by simp;omega
 have HN:=Lib.hid hN
 by_cases hlt:i<rs.length
 ·obtain⟨rb,ro,x,rfl,hrb,hx,g0,g1⟩:=(Hs.out.later hN.bel).ltR hlt
  have i1:(i:Int)<(rs.length:Int):=by omega
  have i2:(0:Int)<=(i:Int):=by omega
  have i3:IntKind.i64.wrap ((i:Int)+1)=(i:Int)+1:=by rw[IntKind.wrap_i64];omega
  have i4:IntKind.i64.wrap (k+1)=k+1:=by rw[IntKind.wrap_i64];omega
  have hst:=count_take (p:=inWd wd) hx
  obtain⟨q1,hq1⟩:∃q,decide (wd.lo<=x.lo)=q:=⟨_,rfl⟩
  obtain⟨q2,hq2⟩:∃q,decide (x.hi<=wd.hi)=q:=⟨_,rfl⟩
  have hin:inWd wd x=(q1&&q2):=by unfold inWd;rw[hq1,hq2]
  rw[hin]at hst
  have Hst:=Lib.hid hst
  have Hk:=Lib.hid hk
  clear hN hx hst hin hk hkb htl
  cases q1
  all_goals
   cases q2
   all_goals
    have HK:=Lib.hid Hst.out
    go_wp2_with fail
    refine dag 20 (by kernel_rfl) (by kernel_rfl) (.is ?_::.is ?_::.is ?_::.is ?_::.is ?_::.is ?_::.is ?_::.is ?_::.is ?_::.is ?_::.is ?_::.is ?_::.is ?_::.is ?_::.is ?_::.is ?_::.is ?_::.is ?_::.is ?_::.is ?_::[]) rfl ?st1 ?ob1
    case st1=>simp[Spec.ok]
    case ob1=>
     intro env W' hG
     obtain⟨hc,hf⟩:=bcell hG
     repeat (refine obI ?_ ?_;unfold dsA;go_simp;(try go_bits);(first|(refine⟨brefl _,?_⟩;rfl)|rfl);intro K hK;go_simp;refine hK _ ?_;clear hK K)
     refine obN (λ_=>?_)
     have HN2:=Lib.hid (HN.out.later hG)
     clear hc hf hG
     go_wp2
     have h1:=Hk.out
     have h2:=HK.out
     simp only[Bool.and_self,Bool.and_true,Bool.and_false,if_true,Bool.false_eq_true,if_false]at h2
     first
      |(refine hK _ _ (m-1) (by omega) ⟨rfl,i+1,k+1,by omega,by omega,HN2.out,?_⟩
        repeat (first|exact ftL|refine ftN ?_|refine ftS ?_)
        done)
      |(refine hK _ _ (m-1) (by omega) ⟨rfl,i+1,k,by omega,by omega,HN2.out,?_⟩
        repeat (first|exact ftL|refine ftN ?_|refine ftS ?_)
        done)
 ·obtain rfl:i=rs.length:=by omega
  rw[List.take_length]at hk hkb
  have Hk:=Lib.hid hk
  have HL2:=Lib.hid (show 0<=k/\k<=1000 by omega)
  clear hN hk hK hkb htl
  go_wp2_with fail
  refine(refUp_any L k _ HL.out HL2.out).mono ?_
  rintro e w2⟨rfl,hb2⟩
  have HN2:=Lib.hid (HN.out.later hb2)
  clear hb2
  go_wp2
  go_ret
  exact⟨ret_int (by unfold needP;rw[Hk.out]),HN2.out.bel⟩
end Go.Proofs.YtifehdoghfnhoaaGreatDoor
namespace Go.Proofs.YtifehdoghfnhoaaGreatDoor
open Go.RowKit Go.Shelf
theorem two_in(wd x:Rg)(hx:x.lo<=x.hi):(!([x.lo,x.hi].any (outR wd.lo wd.hi)))=inWd wd x:=by
 rw[Bool.eq_iff_iff]
 unfold inWd
 simp[outR_eq,outB]
 omega
structure NV(w W:World)(g:Nat)(L:Int)(A:Option Addr)(n c:Nat)(wd:Rg):Prop where
 bel:Below w.heap.size w W
 b0:Blk W w.heap.size 34 #[.int .i64 wd.lo,.int .i64 wd.hi]
 v0:Blk W g 99 #[.int .i64 L,.slice A n c]
theorem NV.later{w W W':World}{g:Nat}{L:Int}{A:Option Addr}{n c:Nat}{wd:Rg}(h:NV w W g L A n c wd)(hb:Below W.heap.size W W'):NV w W' g L A n c wd:=⟨Below.later h.bel hb,h.b0.later hb,h.v0.later hb⟩
set_option maxRecDepth 100000 in
set_option maxHeartbeats 2000000 in
theorem need_any(g:Nat)(L:Int)(A:Option Addr)(n c:Nat)(rs:List Rg)(wd:Rg)(w:World)(hv:Blk w g 99 #[.int .i64 L,.slice A n c])(hs:Sl 2 encR w w.heap.size A n c rs)(hn:n<=100)(hL:1<=L/\L<=10)(hlh:∀x∈rs,x.lo<=x.hi):
 Calls Tryz.prog 256 #[.pointer (some ⟨g,0,none⟩),.agg #[.int .i64 wd.lo,.int .i64 wd.hi]] w λe w'=>e=.returned (.int .i64 (needP L rs wd))/\Below w.heap.size w w':=by
 obtain rfl:=hs.len
 have Hs:=Lib.hid hs
 have HN:=Lib.hid (show NV w (w.alloc (.cells #[.int .i64 wd.lo,.int .i64 wd.hi] 34)) g L A rs.length c wd from⟨balloc (brefl w) _,Blk.new w _ _,hv.alloc _⟩)
 have HL:=Lib.hid hL
 have Hlh:=Lib.hid hlh
 have v0:=(hv.alloc (.cells #[.int .i64 wd.lo,.int .i64 wd.hi] 34)).cell 0
 have v1:=(hv.alloc (.cells #[.int .i64 wd.lo,.int .i64 wd.hi] 34)).cell 1
 have v2:=(hv.alloc (.cells #[.int .i64 wd.lo,.int .i64 wd.hi] 34)).lt
 clear hs hL hv hlh
 go_enter Tryz.func256,Tryz.ntmps256
 go_wp2_with fail
 clear v0 v1 v2
 refine lpn (λm b W=>b.defers=[]/\∃(i:Nat)(k:Int),i+m=rs.length/\k=((rs.take i).countP (inWd wd):Nat)/\NV w W g L A rs.length c wd/\Fits (some (.pointer (some ⟨g,0,none⟩))::none::none::some (.pointer (some ⟨w.heap.size,0,none⟩))::none::some (.int .i64 k)::none::none::none::none::none::none::some (.slice A rs.length c)::some (.int .i64 (rs.length:Nat))::some (.int .i64 (i:Nat))::none::none::none::none::none::none::none::none::none::none::none::none::none::none::none::none::none::none::none::[]) b.tmps.toList) rs.length ?_ ?_
 ·refine⟨rfl,0,0,by omega,by simp,HN.out,?_⟩
  repeat (first|exact ftL|refine ftN ?_|refine ftS ?_)
 clear HN
 intro m b W hI K hK
 obtain⟨hds,i,k,him,hk,hN,hfit⟩:=hI
 obtain⟨f,hf⟩:=ftA hfit
 rw[hds]at hf
 subst hf
 clear hfit hds
 simp only[fillP,Nat.reduceAdd]
 have hkb:=List.countP_le_length (p:=inWd wd) (l:=rs.take i)
 have htl:(rs.take i).length<=rs.length:=by simp;omega
 have HN:=Lib.hid hN
 by_cases hlt:i<rs.length
 ·obtain⟨rb,ro,x,rfl,hrb,hx,g0,g1⟩:=(Hs.out.later hN.bel).ltR hlt
  have i1:(i:Int)<(rs.length:Int):=by omega
  have i2:(0:Int)<=(i:Int):=by omega
  have i3:IntKind.i64.wrap ((i:Int)+1)=(i:Int)+1:=by rw[IntKind.wrap_i64];omega
  have i4:IntKind.i64.wrap (k+1)=k+1:=by rw[IntKind.wrap_i64];omega
  have hst:=count_take (p:=inWd wd) hx
  have hin:=two_in wd x (Hlh.out x (List.mem_of_getElem? hx))
  have hNb:=hN.b0.alloc (.cells #[.int .i64 x.lo,.int .i64 x.hi] 34)
  have c0:=hNb.cell 0
  have c1:=hNb.cell 1
  have c2:=hNb.lt
  have HN1:=Lib.hid (hN.later (balloc (brefl W) (.cells #[.int .i64 x.lo,.int .i64 x.hi] 34)))
  have HN2:=Lib.hid (HN1.out.later (balloc (brefl _) (.cells #[.int .i64 x.lo,.int .i64 x.hi] 2)))
  have Hst:=Lib.hid hst
  have Hk:=Lib.hid hk
  have Hin:=Lib.hid hin
  clear hN hx hst hin hk hkb htl hNb
  go_wp2_with fail
  refine(within_any wd.lo wd.hi (some ⟨W.heap.size+1,0,none⟩) 2 2 [x.lo,x.hi] _ (Sl.two (by simp) (by go_simp) (by go_simp))).mono ?_
  rintro e w1⟨rfl,hb1⟩
  rw[Hin.out]
  have HN3:=Lib.hid (HN2.out.later hb1)
  clear hb1 HN1 HN2
  cases hq:inWd wd x
  all_goals
   rw[hq]at Hst
   clear hq
   go_wp2
   have h1:=Hk.out
   have h2:=Hst.out
   simp only[if_true,Bool.false_eq_true,if_false]at h2
   first
    |(refine hK _ _ (m-1) (by omega) ⟨rfl,i+1,k+1,by omega,by omega,HN3.out,?_⟩
      repeat (first|exact ftL|refine ftN ?_|refine ftS ?_)
      done)
    |(refine hK _ _ (m-1) (by omega) ⟨rfl,i+1,k,by omega,by omega,HN3.out,?_⟩
      repeat (first|exact ftL|refine ftN ?_|refine ftS ?_)
      done)
 ·obtain rfl:i=rs.length:=by omega
  rw[List.take_length]at hk hkb
  have Hk:=Lib.hid hk
  have HL2:=Lib.hid (show 0<=k/\k<=1000 by omega)
  clear hN hk hK hkb htl
  go_wp2_with fail
  refine(up_any g L A _ c k _ HN.out.v0 HL.out HL2.out).mono ?_
  rintro e w2⟨rfl,hb2⟩
  have HN2:=Lib.hid (HN.out.later hb2)
  clear hb2
  go_wp2
  go_ret
  exact⟨ret_int (by unfold needP;rw[Hk.out]),HN2.out.bel⟩
end Go.Proofs.YtifehdoghfnhoaaGreatDoor
