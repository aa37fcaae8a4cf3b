/- grade.within: whether all numbers are from one to another one. -/
import Derived.Test.YtmfiggbobaihcaaGIndex
namespace Go.Proofs.Ytmfiggbobaihcaa
open Go.RowKit Go.Shelf

def outB (lo hi x : Int) : Bool := decide (x < lo) || decide (hi < x)
@[irreducible] def outR (lo hi x : Int) : Bool := outB lo hi x
theorem outR_eq (lo hi x : Int) : outR lo hi x = outB lo hi x := by unfold outR; rfl

set_option maxHeartbeats 400000 in
theorem withinC (B1 B2 : Nat) (lo hi x : Int) (w : World) (h1 : w.cell? ⟨B1, 0, none⟩ = some (.int .i64 lo)) (h2 : w.cell? ⟨B2, 0, none⟩ = some (.int .i64 hi)) :
    Calls Try.prog 86 #[.int .i64 x, .pointer (some ⟨B1, 0, none⟩), .pointer (some ⟨B2, 0, none⟩)] w fun e w' => e = .returned (.bool (outR lo hi x)) ∧ Below w.heap.size w w' := by
  have H := Lib.hid (outR_eq lo hi x)
  by_cases c1 : x < lo
  · go_enter Try.func86, Try.ntmps86
    go_wp2
    go_ret
    exact ⟨ret_bool (by rw [H.out]; simp [outB, c1]), Below.refl _ _⟩
  · by_cases c2 : hi < x
    · go_enter Try.func86, Try.ntmps86
      go_wp2
      go_ret
      exact ⟨ret_bool (by rw [H.out]; simp [outB, c2]), Below.refl _ _⟩
    · go_enter Try.func86, Try.ntmps86
      go_wp2
      go_ret
      exact ⟨ret_bool (by rw [H.out]; simp [outB, c1, c2]), Below.refl _ _⟩

set_option maxHeartbeats 400000 in
theorem within_any (lo hi : Int) (A : Option Addr) (n c : Nat) (xs : List Int) (w : World) (hs : Sl 1 encI w w.heap.size A n c xs) :
    Calls Try.prog 60 #[.int .i64 lo, .int .i64 hi, .slice A n c] w fun e w' => e = .returned (.bool (!(xs.any (outR lo hi)))) ∧ Below w.heap.size w w' := by
  have Hs := Lib.hid hs
  clear hs
  go_enter Try.func60, Try.ntmps60
  go_wp2_with (go_at_call 85; refine (containsL 86 #[.pointer (some ⟨w.heap.size, 0, none⟩), .pointer (some ⟨w.heap.size + 1, 0, none⟩)] (enters_of Try.func86 (by kernel_rfl) rfl) (outR lo hi) A n c xs _ (Hs.out.later ?_) ?_).mono ?_)
  · exact ((Below.refl _ _).alloc (Nat.le_refl _) _).alloc (by simp) _
  · intro x W _ hb
    exact withinC _ _ lo hi x W ((hb.cell (p := ⟨w.heap.size, 0, none⟩) (by simp; omega)).trans (by go_simp)) ((hb.cell (p := ⟨w.heap.size + 1, 0, none⟩) (by simp)).trans (by go_simp))
  · rintro e w1 ⟨rfl, hb1⟩
    have Hb1 := Lib.hid hb1
    clear hb1
    go_wp2
    go_ret
    exact ⟨rfl, Below.later (((Below.refl _ _).alloc (Nat.le_refl _) _).alloc (by simp) _) Hb1.out⟩

/-- Whether a number is from one to another one. -/
@[irreducible] def inR (lo hi x : Int) : Bool := decide (lo ≤ x) && decide (x ≤ hi)
theorem inR_iff (lo hi x : Int) : inR lo hi x = true ↔ lo ≤ x ∧ x ≤ hi := by unfold inR; simp
theorem inR_no (lo hi x : Int) : inR lo hi x = false ↔ x < lo ∨ hi < x := by
  rw [Bool.eq_false_iff, ne_eq, inR_iff]; omega
theorem inR_any (lo hi x : Int) : (!([x].any (outR lo hi))) = inR lo hi x := by
  rw [Bool.eq_iff_iff, inR_iff]; simp [outR_eq, outB]

theorem Sl.one {w : World} {B b : Nat} {x : Int} (hb : b < B) (h : w.cell? ⟨b, 0, none⟩ = some (.int .i64 x)) : Sl 1 encI w B (some ⟨b, 0, none⟩) 1 1 [x] :=
  ⟨rfl, by omega, by omega, fun _ => ⟨b, 0, rfl, hb, fun i y hy j u hu => by
    match i, hy with
    | 0, rfl => match j, hu with
      | 0, rfl => simpa using h⟩⟩

theorem within_one (lo hi x : Int) (b : Nat) (w : World) (hb : b < w.heap.size) (h : w.cell? ⟨b, 0, none⟩ = some (.int .i64 x)) :
    Calls Try.prog 60 #[.int .i64 lo, .int .i64 hi, .slice (some ⟨b, 0, none⟩) 1 1] w fun e w' => e = .returned (.bool (inR lo hi x)) ∧ Below w.heap.size w w' :=
  (within_any lo hi _ _ _ [x] w (Sl.one hb h)).mono fun _ _ ⟨he, hw⟩ => ⟨by rw [he, inR_any], hw⟩

end Go.Proofs.Ytmfiggbobaihcaa
