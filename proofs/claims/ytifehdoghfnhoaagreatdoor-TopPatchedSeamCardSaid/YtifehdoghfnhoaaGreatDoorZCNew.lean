/- The worths of a table: lists in cells, ranges over places, faults before a place. -/
import Derived.Test.YtifehdoghfnhoaaGreatDoorZCTable
import Derived.RangeFuncNested
import Derived.RangeFuncBound
import Derived.RangeFuncCalls
import Derived.RangeFuncLeaves
import Derived.Shelf.RegionOpen
import Derived.OwnWalkIn
import Derived.TacticsInMore
import Derived.LoopNIn
import Derived.LoopIn
import Derived.Deep.LoopGhost
namespace Go.Proofs.YtifehdoghfnhoaaGreatDoor.C
open Go.RowKit Go.Shelf
attribute [local go_sem] Oper.semAt_some
theorem grown_none{W W':World}(h:Below W.heap.size W W'):W.grownBy W' none:=⟨h.os,h.tape,h.output,h.size,λk hk _=>h.block k hk⟩
end Go.Proofs.YtifehdoghfnhoaaGreatDoor.C
namespace Go.Proofs.YtifehdoghfnhoaaGreatDoor.C
open Go.RowKit Go.Shelf
structure Kept(B:Nat)(W W':World):Prop where
 os:W'.os=W.os
 tape:W'.tape=W.tape
 output:W'.output=W.output
 size:W.heap.size<=W'.heap.size
 low:∀k,k<B->k<W.heap.size->W'.heap[k]? =W.heap[k]?
 cells:∀(k:Nat)(c:Array Value)(e:TypeId)(f:Nat×Nat),W.heap[k]? =some (.cells c e f)->W'.heap[k]? =some (.cells c e f)
theorem Kept.of_grown{B:Nat}{W W':World}{row:Option Nat}(hg:W.grownBy W' row)(hr:∀r,row=some r->B<=r/\∃o:Obj,W.heap[r]? =some o/\o.isCells=false):Kept B W W':=by
 refine⟨hg.os,hg.tape,hg.output,hg.size,λk hB hk=>hg.block k hk (λe=>?_),λk c e f hk=>?_⟩
 ·have:=(hr k e.symm).1;omega
 ·refine(hg.block k (Array.getElem?_eq_some_iff.1 hk).1 (λe'=>?_)).trans hk
  obtain⟨_,o,ho,hc⟩:=hr k e'.symm
  rw[hk]at ho;cases ho;simp[Obj.isCells]at hc
def upd(F:Nat->Int)(j:Nat)(v:Int):Nat->Int:=λk=>if k=j then v else F k
def Blk(W:World)(b:Nat)(t:TypeId)(cs:Array Value):Prop:=W.heap[b]? =some (.cells cs t (0,0))
section
variable{W W':World}{b:Nat}{t:TypeId}{cs:Array Value}
theorem Blk.lt(h:Blk W b t cs):b<W.heap.size:=(Array.getElem?_eq_some_iff.1 h).1
theorem Blk.cell(h:Blk W b t cs)(o:Nat):W.cell? ⟨b,o,none⟩=cs[o]? :=by simp[World.cell?,show W.heap[b]? =_ from h]
theorem Blk.frozen(h:Blk W b t cs)(o:Nat):W.frozen? ⟨b,o,none⟩=false:=by simp[World.frozen?,show W.heap[b]? =_ from h]
theorem Blk.below{B:Nat}(h:Blk W b t cs)(hb:Below B W W')(hB:b<B):Blk W' b t cs:=(hb.block b hB).trans h
theorem Blk.later(h:Blk W b t cs)(hb:Below W.heap.size W W'):Blk W' b t cs:=h.below hb h.lt
theorem Blk.new(W:World)(t:TypeId)(cs:Array Value):Blk (W.alloc (.cells cs t)) W.heap.size t cs:=World.alloc_heap_new W _
theorem Blk.set(h:Blk W b t cs)(o:Nat)(u:Value):Blk (W.setCell ⟨b,o,none⟩ u) b t (cs.setIfInBounds o u):=by
 unfold Blk at h ⊢
 simp[World.setCell,Array.getElem?_modify,h]
theorem Blk.kept{B:Nat}(h:Blk W b t cs)(hk:Kept B W W'):Blk W' b t cs:=hk.cells b cs t (0,0) h
end
end Go.Proofs.YtifehdoghfnhoaaGreatDoor.C
