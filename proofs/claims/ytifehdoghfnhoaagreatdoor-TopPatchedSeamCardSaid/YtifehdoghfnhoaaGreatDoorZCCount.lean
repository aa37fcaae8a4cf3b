/- clip.table.count: how many best cuts there are, from each place on. -/
import Derived.Test.YtifehdoghfnhoaaGreatDoorZCNew
import Derived.Test.YtifehdoghfnhoaaGreatDoorZCOpen
import Derived.Deep.OwnRows
namespace Go.Proofs.YtifehdoghfnhoaaGreatDoor.C
open Go.RowKit
end Go.Proofs.YtifehdoghfnhoaaGreatDoor.C
namespace Go.Proofs.YtifehdoghfnhoaaGreatDoor.C
open Go.RowKit Go.Shelf
attribute [local go_sem] Oper.semAt_some
def numArr(n:Nat)(M:Nat->Int):Array Value:=((List.range n).map (λj=>Value.int .i64 (M j))).toArray
theorem numArr_get{n:Nat}{M:Nat->Int}{j:Nat}(h:j<n):(numArr n M)[j]? =some (.int .i64 (M j)):=by simp[numArr,h]
theorem numArr_set{n:Nat}{M:Nat->Int}(j:Nat)(v:Int):(numArr n M).setIfInBounds j (.int .i64 v)=numArr n (upd M j v):=by
 simp only[numArr,List.setIfInBounds_toArray]
 congr 1
 apply List.ext_getElem
 ·simp
 ·intro i h1 h2
  simp only[List.getElem_map,List.getElem_range,List.getElem_set]
  by_cases e:i=j
  ·simp[upd,e]
  ·rw[if_neg (λh=>e h.symm)];simp[upd,e]
end Go.Proofs.YtifehdoghfnhoaaGreatDoor.C
