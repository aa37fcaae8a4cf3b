/- Ranges of hours, as chapter 3's lists of them lie in memory. -/
import Derived.Test.YtbbdlebmagknmaaBase
namespace Go.Proofs.Ytbbdlebmagknmaa
open Go.RowKit Go.Shelf

structure Rg where
  lo : Int
  hi : Int
  deriving DecidableEq
def encR (x : Rg) : List Value := [.int .i64 x.lo, .int .i64 x.hi]
theorem Sl.ltR {w : World} {B : Nat} {A : Option Addr} {n c : Nat} {xs : List Rg} (h : Sl 2 encR w B A n c xs) {i : Nat} (hi : i < n) : ∃ b o x, A = some ⟨b, o, none⟩ ∧ b < B ∧ xs[i]? = some x ∧ w.cell? ⟨b, o + i * 2, none⟩ = some (.int .i64 x.lo) ∧ w.cell? ⟨b, o + i * 2 + 1, none⟩ = some (.int .i64 x.hi) := by
  obtain ⟨b, o, x, hA, hB, hx, hc⟩ := h.lt hi
  exact ⟨b, o, x, hA, hB, hx, by simpa using hc 0 _ rfl, by simpa using hc 1 _ rfl⟩
end Go.Proofs.Ytbbdlebmagknmaa
