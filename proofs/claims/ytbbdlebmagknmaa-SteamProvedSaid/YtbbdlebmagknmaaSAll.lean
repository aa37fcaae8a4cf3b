/- What the laws of chapter 3 share: too many logs; a law's standing memory. -/
import Derived.Test.YtbbdlebmagknmaaSWorks
namespace Go.Proofs.Ytbbdlebmagknmaa
open Go.RowKit Go.Shelf

/-- Too many logs for a statement. -/
def grB (n : Nat) : Bool := decide ((16 : Int) < (n : Int))
theorem great_any (L : Int) (A : Option Addr) (n c : Nat) (w : World) :
    Calls Try.prog 17 #[.agg #[.int .i64 L, .slice A n c]] w fun e w' => e = .returned (.bool (grB n)) ∧ Below w.heap.size w w' := by
  unfold grB
  go_enter Try.func17, Try.ntmps17
  go_wp2
  go_ret
  exact ⟨rfl, balloc (brefl w) _⟩

/-- A law's standing memory: the yard's box and its logs. -/
structure LW (w W : World) (B0 : Nat) (L : Int) (A : Option Addr) (n c : Nat) (rs : List Rg) : Prop where
  bel : Below w.heap.size w W
  b0 : Blk W B0 24 #[.int .i64 L, .slice A n c]
  sl : Sl 2 encR W W.heap.size A n c rs
section
variable {w W W' : World} {B0 : Nat} {L : Int} {A : Option Addr} {n c : Nat} {rs : List Rg}
theorem LW.later (h : LW w W B0 L A n c rs) (hb : Below W.heap.size W W') : LW w W' B0 L A n c rs := ⟨Below.later h.bel hb, h.b0.later hb, h.sl.later hb⟩
theorem LW.cells (h : LW w W B0 L A n c rs) : W.cell? ⟨B0, 0, none⟩ = some (.int .i64 L) ∧ W.cell? ⟨B0, 1, none⟩ = some (.slice A n c) ∧ B0 < W.heap.size := ⟨h.b0.cell 0, h.b0.cell 1, h.b0.lt⟩
end
end Go.Proofs.Ytbbdlebmagknmaa
