/- Ranges of hours, as chapter 3's lists of them lie in memory. · slices.IndexFunc and slices.ContainsFunc: for every function value that answers each element by a plain predicate and turns no memory that was there. No condition besides. · steam.within: whether all numbers are from one to another one. -/
import Derived.Test.YtbbdlebmagknmaaBase
namespace Go.Proofs.Ytbbdlebmagknmaa
open Go.RowKit Go.Shelf

structure Rg where
  lo : Int
  hi : Int
  deriving DecidableEq
def encR (x : Rg) : List Value := [.int .i64 x.lo, .int .i64 x.hi]
theorem Sl.ltR {w : World} {B : Nat} {A : Option Addr} {n c : Nat} {xs : List Rg} (h : Sl 2 encR w B A n c xs) {i : Nat} (hi : i < n) : ∃ b o x, A = some ⟨b, o, none⟩ ∧ b < B ∧ xs[i]? = some x ∧ w.cell? ⟨b, o + i * 2, none⟩ = some (.int .i64 x.lo) ∧ w.cell? ⟨b, o + i * 2 + 1, none⟩ = some (.int .i64 x.hi) := by
  obtain ⟨b, o, x, hA, hB, hx, hc⟩ := h.lt hi
  exact ⟨b, o, x, hA, hB, hx, by simpa using hc 0 _ rfl, by simpa using hc 1 _ rfl⟩
end Go.Proofs.Ytbbdlebmagknmaa

namespace Go.Proofs.Ytbbdlebmagknmaa
open Go.RowKit Go.Shelf

set_option maxHeartbeats 400000 in
theorem indexL (g : Nat) (lb : Array Value) (eg : ∀ args w, (callFunc g args).run Try.prog w = .ok (.enter g args) w) (p : Int → Bool) (A : Option Addr) (n c : Nat) (xs : List Int) (w : World)
    (hs : Sl 1 encI w w.heap.size A n c xs)
    (hp : ∀ x W, x ∈ xs → Below w.heap.size w W → Calls Try.prog g (#[.int .i64 x] ++ lb) W fun e W' => e = .returned (.bool (p x)) ∧ Below W.heap.size W W') :
    Calls Try.prog 88 #[.slice A n c, .func (.func g) #[] lb] w fun e w' => e = .returned (.int .i64 (idxB p xs 0)) ∧ Below w.heap.size w w' := by
  have hl := hs.len
  have hcap := hs.cap
  have hbig := hs.big
  have Hp := Lib.hid hp
  clear hp
  go_enter Try.func88, Try.ntmps88
  go_wp2
  go_loopw [8] (fun i wr => ∃ k : Nat, k ≤ n ∧ i = .int .i64 k ∧ (∀ j x, j < k → xs[j]? = some x → p x = false) ∧ Below w.heap.size w wr) (fun i _ => n - (intOf i).toNat)
  case atStart => exact ⟨0, by omega, rfl, by omega, Below.refl _ _⟩
  case round =>
    obtain ⟨k, hk, rfl, hno, hb⟩ := hrel
    by_cases hlt : k < n
    · obtain ⟨b, o, x, rfl, hB, hx, hc0⟩ := (hs.below hb).ltI hlt
      have Hno := Lib.hid hno
      have Hx := Lib.hid hx
      have Hb := Lib.hid hb
      clear hno hx hb
      go_wp2_with (go_at_fn g; refine (Hp.out x _ (List.mem_of_getElem? Hx.out) Hb.out).mono ?_; rintro e w1 ⟨rfl, hb1⟩)
      · have hpx : p x = true := by assumption
        go_ret
        exact ⟨ret_int (idxB_at Hno.out Hx.out hpx).symm, Below.later Hb.out hb1⟩
      · have hpx : p x = false := by assumption
        go_roundw
        case rel => exact ⟨k + 1, by omega, by go_num, no_succ Hno.out Hx.out hpx, Below.later Hb.out hb1⟩
        case measure => simp [intOf]; omega
    · obtain rfl : k = n := by omega
      have Hno := Lib.hid hno
      have Hb := Lib.hid hb
      clear hno hb
      go_wp2
      go_ret
      exact ⟨ret_int (idxB_no (by rw [hl]; exact Hno.out)).symm, Hb.out⟩

set_option maxHeartbeats 400000 in
theorem containsL (g : Nat) (lb : Array Value) (eg : ∀ args w, (callFunc g args).run Try.prog w = .ok (.enter g args) w) (p : Int → Bool) (A : Option Addr) (n c : Nat) (xs : List Int) (w : World)
    (hs : Sl 1 encI w w.heap.size A n c xs)
    (hp : ∀ x W, x ∈ xs → Below w.heap.size w W → Calls Try.prog g (#[.int .i64 x] ++ lb) W fun e W' => e = .returned (.bool (p x)) ∧ Below W.heap.size W W') :
    Calls Try.prog 76 #[.slice A n c, .func (.func g) #[] lb] w fun e w' => e = .returned (.bool (xs.any p)) ∧ Below w.heap.size w w' := by
  have H := Lib.hid (indexL g lb eg p A n c xs w hs hp)
  clear hs hp
  go_enter Try.func76, Try.ntmps76
  go_wp2_with (go_at_call 88; refine H.out.mono ?_; rintro e w1 ⟨rfl, hb1⟩)
  go_ret
  exact ⟨ret_bool (idxB_ge p xs 0), hb1⟩

set_option maxHeartbeats 400000 in
theorem indexR (g : Nat) (lb : Array Value) (eg : ∀ args w, (callFunc g args).run Try.prog w = .ok (.enter g args) w) (p : Rg → Bool) (A : Option Addr) (n c : Nat) (xs : List Rg) (w : World)
    (hs : Sl 2 encR w w.heap.size A n c xs)
    (hp : ∀ x W, x ∈ xs → Below w.heap.size w W → Calls Try.prog g (#[.agg #[.int .i64 x.lo, .int .i64 x.hi]] ++ lb) W fun e W' => e = .returned (.bool (p x)) ∧ Below W.heap.size W W') :
    Calls Try.prog 80 #[.slice A n c, .func (.func g) #[] lb] w fun e w' => e = .returned (.int .i64 (idxB p xs 0)) ∧ Below w.heap.size w w' := by
  have hl := hs.len
  have hcap := hs.cap
  have hbig := hs.big
  have Hp := Lib.hid hp
  clear hp
  go_enter Try.func80, Try.ntmps80
  go_wp2
  go_loopw [8] (fun i wr => ∃ k : Nat, k ≤ n ∧ i = .int .i64 k ∧ (∀ j x, j < k → xs[j]? = some x → p x = false) ∧ Below w.heap.size w wr) (fun i _ => n - (intOf i).toNat)
  case atStart => exact ⟨0, by omega, rfl, by omega, Below.refl _ _⟩
  case round =>
    obtain ⟨k, hk, rfl, hno, hb⟩ := hrel
    by_cases hlt : k < n
    · obtain ⟨b, o, x, rfl, hB, hx, hc0, hc1⟩ := (hs.below hb).ltR hlt
      have Hno := Lib.hid hno
      have Hx := Lib.hid hx
      have Hb := Lib.hid hb
      clear hno hx hb
      go_wp2_with (go_at_fn g; refine (Hp.out x _ (List.mem_of_getElem? Hx.out) Hb.out).mono ?_; rintro e w1 ⟨rfl, hb1⟩)
      · have hpx : p x = true := by assumption
        go_ret
        exact ⟨ret_int (idxB_at Hno.out Hx.out hpx).symm, Below.later Hb.out hb1⟩
      · have hpx : p x = false := by assumption
        go_roundw
        case rel => exact ⟨k + 1, by omega, by go_num, no_succ Hno.out Hx.out hpx, Below.later Hb.out hb1⟩
        case measure => simp [intOf]; omega
    · obtain rfl : k = n := by omega
      have Hno := Lib.hid hno
      have Hb := Lib.hid hb
      clear hno hb
      go_wp2
      go_ret
      exact ⟨ret_int (idxB_no (by rw [hl]; exact Hno.out)).symm, Hb.out⟩

set_option maxHeartbeats 400000 in
theorem containsR (g : Nat) (lb : Array Value) (eg : ∀ args w, (callFunc g args).run Try.prog w = .ok (.enter g args) w) (p : Rg → Bool) (A : Option Addr) (n c : Nat) (xs : List Rg) (w : World)
    (hs : Sl 2 encR w w.heap.size A n c xs)
    (hp : ∀ x W, x ∈ xs → Below w.heap.size w W → Calls Try.prog g (#[.agg #[.int .i64 x.lo, .int .i64 x.hi]] ++ lb) W fun e W' => e = .returned (.bool (p x)) ∧ Below W.heap.size W W') :
    Calls Try.prog 61 #[.slice A n c, .func (.func g) #[] lb] w fun e w' => e = .returned (.bool (xs.any p)) ∧ Below w.heap.size w w' := by
  have H := Lib.hid (indexR g lb eg p A n c xs w hs hp)
  clear hs hp
  go_enter Try.func61, Try.ntmps61
  go_wp2_with (go_at_call 80; refine H.out.mono ?_; rintro e w1 ⟨rfl, hb1⟩)
  go_ret
  exact ⟨ret_bool (idxB_ge p xs 0), hb1⟩

theorem idxB_has (x : Int) (xs : List Int) : decide (0 ≤ idxB (fun y => x == y) xs 0) = xs.contains x := by
  rw [idxB_ge]
  induction xs with
  | nil => rfl
  | cons y l ih => simp only [List.any_cons, ih, List.contains_cons]
end Go.Proofs.Ytbbdlebmagknmaa

namespace Go.Proofs.Ytbbdlebmagknmaa
open Go.RowKit Go.Shelf

def outB (lo hi x : Int) : Bool := decide (x < lo) || decide (hi < x)
@[irreducible] def outR (lo hi x : Int) : Bool := outB lo hi x
theorem outR_eq (lo hi x : Int) : outR lo hi x = outB lo hi x := by unfold outR; rfl

set_option maxHeartbeats 400000 in
theorem withinC (B1 B2 : Nat) (lo hi x : Int) (w : World) (h1 : w.cell? ⟨B1, 0, none⟩ = some (.int .i64 lo)) (h2 : w.cell? ⟨B2, 0, none⟩ = some (.int .i64 hi)) :
    Calls Try.prog 77 #[.int .i64 x, .pointer (some ⟨B1, 0, none⟩), .pointer (some ⟨B2, 0, none⟩)] w fun e w' => e = .returned (.bool (outR lo hi x)) ∧ Below w.heap.size w w' := by
  have H := Lib.hid (outR_eq lo hi x)
  by_cases c1 : x < lo
  · go_enter Try.func77, Try.ntmps77
    go_wp2
    go_ret
    exact ⟨ret_bool (by rw [H.out]; simp [outB, c1]), Below.refl _ _⟩
  · by_cases c2 : hi < x
    · go_enter Try.func77, Try.ntmps77
      go_wp2
      go_ret
      exact ⟨ret_bool (by rw [H.out]; simp [outB, c2]), Below.refl _ _⟩
    · go_enter Try.func77, Try.ntmps77
      go_wp2
      go_ret
      exact ⟨ret_bool (by rw [H.out]; simp [outB, c1, c2]), Below.refl _ _⟩

set_option maxHeartbeats 400000 in
theorem within_any (lo hi : Int) (A : Option Addr) (n c : Nat) (xs : List Int) (w : World) (hs : Sl 1 encI w w.heap.size A n c xs) :
    Calls Try.prog 54 #[.int .i64 lo, .int .i64 hi, .slice A n c] w fun e w' => e = .returned (.bool (!(xs.any (outR lo hi)))) ∧ Below w.heap.size w w' := by
  have Hs := Lib.hid hs
  clear hs
  go_enter Try.func54, Try.ntmps54
  go_wp2_with (go_at_call 76; refine (containsL 77 #[.pointer (some ⟨w.heap.size, 0, none⟩), .pointer (some ⟨w.heap.size + 1, 0, none⟩)] (enters_of Try.func77 (by kernel_rfl) rfl) (outR lo hi) A n c xs _ (Hs.out.later ?_) ?_).mono ?_)
  · exact ((Below.refl _ _).alloc (Nat.le_refl _) _).alloc (by simp) _
  · intro x W _ hb
    exact withinC _ _ lo hi x W ((hb.cell (p := ⟨w.heap.size, 0, none⟩) (by simp; omega)).trans (by go_simp)) ((hb.cell (p := ⟨w.heap.size + 1, 0, none⟩) (by simp)).trans (by go_simp))
  · rintro e w1 ⟨rfl, hb1⟩
    have Hb1 := Lib.hid hb1
    clear hb1
    go_wp2
    go_ret
    exact ⟨rfl, Below.later (((Below.refl _ _).alloc (Nat.le_refl _) _).alloc (by simp) _) Hb1.out⟩

/-- Whether a number is from one to another one. -/
@[irreducible] def inR (lo hi x : Int) : Bool := decide (lo ≤ x) && decide (x ≤ hi)
theorem inR_iff (lo hi x : Int) : inR lo hi x = true ↔ lo ≤ x ∧ x ≤ hi := by unfold inR; simp
theorem inR_no (lo hi x : Int) : inR lo hi x = false ↔ x < lo ∨ hi < x := by
  rw [Bool.eq_false_iff, ne_eq, inR_iff]; omega
theorem inR_any (lo hi x : Int) : (!([x].any (outR lo hi))) = inR lo hi x := by
  rw [Bool.eq_iff_iff, inR_iff]; simp [outR_eq, outB]

theorem Sl.one {w : World} {B b : Nat} {x : Int} (hb : b < B) (h : w.cell? ⟨b, 0, none⟩ = some (.int .i64 x)) : Sl 1 encI w B (some ⟨b, 0, none⟩) 1 1 [x] :=
  ⟨rfl, by omega, by omega, fun _ => ⟨b, 0, rfl, hb, fun i y hy j u hu => by
    match i, hy with
    | 0, rfl => match j, hu with
      | 0, rfl => simpa using h⟩⟩

theorem within_one (lo hi x : Int) (b : Nat) (w : World) (hb : b < w.heap.size) (h : w.cell? ⟨b, 0, none⟩ = some (.int .i64 x)) :
    Calls Try.prog 54 #[.int .i64 lo, .int .i64 hi, .slice (some ⟨b, 0, none⟩) 1 1] w fun e w' => e = .returned (.bool (inR lo hi x)) ∧ Below w.heap.size w w' :=
  (within_any lo hi _ _ _ [x] w (Sl.one hb h)).mono fun _ _ ⟨he, hw⟩ => ⟨by rw [he, inR_any], hw⟩

end Go.Proofs.Ytbbdlebmagknmaa
