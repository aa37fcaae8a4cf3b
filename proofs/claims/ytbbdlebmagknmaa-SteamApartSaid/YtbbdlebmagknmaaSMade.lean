/- A yard whose logs are made one behind the other, beside a given one. -/
import Derived.Test.YtbbdlebmagknmaaSRefE
namespace Go.Proofs.Ytbbdlebmagknmaa
open Go.RowKit Go.Shelf

/-- The given yard in block w.heap.size, the one that is made in block P. -/
structure KP (w W : World) (P : Nat) (L : Int) (A : Option Addr) (n c : Nat) (M : Int) (v : Value) (xs : List Rg) : Prop where
  bx : BX w W w.heap.size P 24 M v xs
  b0 : Blk W w.heap.size 24 #[.int .i64 L, .slice A n c]
  hp : w.heap.size < P
section
variable {w W W' : World} {P : Nat} {L : Int} {A : Option Addr} {n c : Nat} {M : Int} {v : Value} {xs : List Rg}
theorem KP.later (h : KP w W P L A n c M v xs) (hb : Below W.heap.size W W') : KP w W' P L A n c M v xs := ⟨h.bx.later hb, h.b0.later hb, h.hp⟩
theorem KP.grown (h : KP w W P L A n c M v xs) {v' : Value} {x : Rg} (hg : W.grownBy W' v.ownBlock) (ho : W'.ownsRow w.heap.size 27 2 v' (xs.length + 1) (xs.flatMap encR ++ encR x)) : KP w (W'.setCell ⟨P, 1, none⟩ v') P L A n c M v' (xs ++ [x]) :=
  ⟨h.bx.grown (by decide) hg ho, (h.b0.grown hg (h.b0.notRow h.bx.own (by decide))).other (by show P ≠ _; have := h.hp; omega) _, h.hp⟩
theorem KP.lw {rs : List Rg} (h : KP w W P L A n c M v xs) (hs : Sl 2 encR w w.heap.size A n c rs) : LW w W w.heap.size L A n c rs := ⟨h.bx.bel, h.b0, hs.later h.bx.bel⟩
theorem KP.made (h : KP w W P L A n c M v xs) : ∃ A' c', v = .slice A' xs.length c' ∧ LW w W P M A' xs.length c' xs := by
  obtain ⟨A', c', hv, hsl⟩ := h.bx.sl
  refine ⟨A', c', hv, h.bx.bel, ?_, hsl⟩
  have := h.bx.bp
  rw [hv] at this
  exact this
end
end Go.Proofs.Ytbbdlebmagknmaa
