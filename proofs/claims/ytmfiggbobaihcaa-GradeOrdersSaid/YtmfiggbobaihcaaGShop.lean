/- A shop, as it lies in memory; the error of a shop; grade.CheckShop. -/
import Derived.Test.YtmfiggbobaihcaaGNum
import Derived.Test.YtmfiggbobaihcaaGWithin
namespace Go.Proofs.Ytmfiggbobaihcaa
open Go.RowKit Go.Shelf

/-- The three lists of a shop. -/
structure ShopIn (w : World) (B : Nat) (SA : Option Addr) (sn sc : Nat) (PA : Option Addr) (pn pc : Nat) (OA : Option Addr) (on oc : Nat) (S P : List Int) (O : List Od) : Prop where
  stk : Sl 1 encI w B SA sn sc S
  prc : Sl 1 encI w B PA pn pc P
  ord : Sl 2 encO w B OA on oc O
section
variable {w w' : World} {B : Nat} {SA : Option Addr} {sn sc : Nat} {PA : Option Addr} {pn pc : Nat} {OA : Option Addr} {on oc : Nat} {S P : List Int} {O : List Od}
theorem ShopIn.later (h : ShopIn w w.heap.size SA sn sc PA pn pc OA on oc S P O) (hb : Below w.heap.size w w') : ShopIn w' w'.heap.size SA sn sc PA pn pc OA on oc S P O := ⟨h.stk.later hb, h.prc.later hb, h.ord.later hb⟩
end
/-- A shop's box stands. -/
structure GW (w W : World) (B0 : Nat) (SA : Option Addr) (sn sc : Nat) (PA : Option Addr) (pn pc : Nat) (OA : Option Addr) (on oc : Nat) (S P : List Int) (O : List Od) : Prop where
  bel : Below w.heap.size w W
  b0 : Blk W B0 25 #[.slice SA sn sc, .slice PA pn pc, .slice OA on oc]
  sh : ShopIn W W.heap.size SA sn sc PA pn pc OA on oc S P O
section
variable {w W W' : World} {B0 : Nat} {SA : Option Addr} {sn sc : Nat} {PA : Option Addr} {pn pc : Nat} {OA : Option Addr} {on oc : Nat} {S P : List Int} {O : List Od}
theorem GW.later (h : GW w W B0 SA sn sc PA pn pc OA on oc S P O) (hb : Below W.heap.size W W') : GW w W' B0 SA sn sc PA pn pc OA on oc S P O := ⟨Below.later h.bel hb, h.b0.later hb, h.sh.later hb⟩
theorem GW.cells (h : GW w W B0 SA sn sc PA pn pc OA on oc S P O) : W.cell? ⟨B0, 0, none⟩ = some (.slice SA sn sc) ∧ W.cell? ⟨B0, 1, none⟩ = some (.slice PA pn pc) ∧ W.cell? ⟨B0, 2, none⟩ = some (.slice OA on oc) ∧ B0 < W.heap.size := ⟨h.b0.cell 0, h.b0.cell 1, h.b0.cell 2, h.b0.lt⟩
theorem GW.start (h : ShopIn w w.heap.size SA sn sc PA pn pc OA on oc S P O) : GW w (w.alloc (.cells #[.slice SA sn sc, .slice PA pn pc, .slice OA on oc] 25)) w.heap.size SA sn sc PA pn pc OA on oc S P O := ⟨balloc (brefl w) _, Blk.new w _ _, h.later (balloc (brefl w) _)⟩
end
/-- An order that is not valid. -/
def strayB (n : Nat) (o : Od) : Bool := !(inR 0 ((n : Int) - 1) o.g) || !(inR 0 20 o.m)
/-- Prices that rise. -/
def riseB : List Int → Bool
  | [] => false
  | [_] => false
  | x :: y :: l => decide (x < y) || riseB (y :: l)
/-- The error of a shop. -/
def shopE (S P : List Int) (O : List Od) : Int :=
  if !(inR 0 4 ((S.length : Int) - 1)) || decide ((8 : Int) < O.length) then 6
  else if P.length ≠ S.length then 15
  else if S.any (outR 0 50) || P.any (outR 0 100) || O.any (strayB S.length) then 3
  else if riseB P then 16 else 0
end Go.Proofs.Ytmfiggbobaihcaa
