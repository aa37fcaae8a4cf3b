/- slices.IndexFunc and slices.ContainsFunc: for every function value that answers each element by a plain predicate and turns no memory that was there. No condition besides. -/
import Derived.Test.YtbbdlebmagknmaaSBase
namespace Go.Proofs.Ytbbdlebmagknmaa
open Go.RowKit Go.Shelf

set_option maxHeartbeats 400000 in
theorem indexL (g : Nat) (lb : Array Value) (eg : ∀ args w, (callFunc g args).run Try.prog w = .ok (.enter g args) w) (p : Int → Bool) (A : Option Addr) (n c : Nat) (xs : List Int) (w : World)
    (hs : Sl 1 encI w w.heap.size A n c xs)
    (hp : ∀ x W, x ∈ xs → Below w.heap.size w W → Calls Try.prog g (#[.int .i64 x] ++ lb) W fun e W' => e = .returned (.bool (p x)) ∧ Below W.heap.size W W') :
    Calls Try.prog 88 #[.slice A n c, .func (.func g) #[] lb] w fun e w' => e = .returned (.int .i64 (idxB p xs 0)) ∧ Below w.heap.size w w' := by
  have hl := hs.len
  have hcap := hs.cap
  have hbig := hs.big
  have Hp := Lib.hid hp
  clear hp
  go_enter Try.func88, Try.ntmps88
  go_wp2
  go_loopw [8] (fun i wr => ∃ k : Nat, k ≤ n ∧ i = .int .i64 k ∧ (∀ j x, j < k → xs[j]? = some x → p x = false) ∧ Below w.heap.size w wr) (fun i _ => n - (intOf i).toNat)
  case atStart => exact ⟨0, by omega, rfl, by omega, Below.refl _ _⟩
  case round =>
    obtain ⟨k, hk, rfl, hno, hb⟩ := hrel
    by_cases hlt : k < n
    · obtain ⟨b, o, x, rfl, hB, hx, hc0⟩ := (hs.below hb).ltI hlt
      have Hno := Lib.hid hno
      have Hx := Lib.hid hx
      have Hb := Lib.hid hb
      clear hno hx hb
      go_wp2_with (go_at_fn g; refine (Hp.out x _ (List.mem_of_getElem? Hx.out) Hb.out).mono ?_; rintro e w1 ⟨rfl, hb1⟩)
      · have hpx : p x = true := by assumption
        go_ret
        exact ⟨ret_int (idxB_at Hno.out Hx.out hpx).symm, Below.later Hb.out hb1⟩
      · have hpx : p x = false := by assumption
        go_roundw
        case rel => exact ⟨k + 1, by omega, by go_num, no_succ Hno.out Hx.out hpx, Below.later Hb.out hb1⟩
        case measure => simp [intOf]; omega
    · obtain rfl : k = n := by omega
      have Hno := Lib.hid hno
      have Hb := Lib.hid hb
      clear hno hb
      go_wp2
      go_ret
      exact ⟨ret_int (idxB_no (by rw [hl]; exact Hno.out)).symm, Hb.out⟩

set_option maxHeartbeats 400000 in
theorem containsL (g : Nat) (lb : Array Value) (eg : ∀ args w, (callFunc g args).run Try.prog w = .ok (.enter g args) w) (p : Int → Bool) (A : Option Addr) (n c : Nat) (xs : List Int) (w : World)
    (hs : Sl 1 encI w w.heap.size A n c xs)
    (hp : ∀ x W, x ∈ xs → Below w.heap.size w W → Calls Try.prog g (#[.int .i64 x] ++ lb) W fun e W' => e = .returned (.bool (p x)) ∧ Below W.heap.size W W') :
    Calls Try.prog 76 #[.slice A n c, .func (.func g) #[] lb] w fun e w' => e = .returned (.bool (xs.any p)) ∧ Below w.heap.size w w' := by
  have H := Lib.hid (indexL g lb eg p A n c xs w hs hp)
  clear hs hp
  go_enter Try.func76, Try.ntmps76
  go_wp2_with (go_at_call 88; refine H.out.mono ?_; rintro e w1 ⟨rfl, hb1⟩)
  go_ret
  exact ⟨ret_bool (idxB_ge p xs 0), hb1⟩

set_option maxHeartbeats 400000 in
theorem indexR (g : Nat) (lb : Array Value) (eg : ∀ args w, (callFunc g args).run Try.prog w = .ok (.enter g args) w) (p : Rg → Bool) (A : Option Addr) (n c : Nat) (xs : List Rg) (w : World)
    (hs : Sl 2 encR w w.heap.size A n c xs)
    (hp : ∀ x W, x ∈ xs → Below w.heap.size w W → Calls Try.prog g (#[.agg #[.int .i64 x.lo, .int .i64 x.hi]] ++ lb) W fun e W' => e = .returned (.bool (p x)) ∧ Below W.heap.size W W') :
    Calls Try.prog 80 #[.slice A n c, .func (.func g) #[] lb] w fun e w' => e = .returned (.int .i64 (idxB p xs 0)) ∧ Below w.heap.size w w' := by
  have hl := hs.len
  have hcap := hs.cap
  have hbig := hs.big
  have Hp := Lib.hid hp
  clear hp
  go_enter Try.func80, Try.ntmps80
  go_wp2
  go_loopw [8] (fun i wr => ∃ k : Nat, k ≤ n ∧ i = .int .i64 k ∧ (∀ j x, j < k → xs[j]? = some x → p x = false) ∧ Below w.heap.size w wr) (fun i _ => n - (intOf i).toNat)
  case atStart => exact ⟨0, by omega, rfl, by omega, Below.refl _ _⟩
  case round =>
    obtain ⟨k, hk, rfl, hno, hb⟩ := hrel
    by_cases hlt : k < n
    · obtain ⟨b, o, x, rfl, hB, hx, hc0, hc1⟩ := (hs.below hb).ltR hlt
      have Hno := Lib.hid hno
      have Hx := Lib.hid hx
      have Hb := Lib.hid hb
      clear hno hx hb
      go_wp2_with (go_at_fn g; refine (Hp.out x _ (List.mem_of_getElem? Hx.out) Hb.out).mono ?_; rintro e w1 ⟨rfl, hb1⟩)
      · have hpx : p x = true := by assumption
        go_ret
        exact ⟨ret_int (idxB_at Hno.out Hx.out hpx).symm, Below.later Hb.out hb1⟩
      · have hpx : p x = false := by assumption
        go_roundw
        case rel => exact ⟨k + 1, by omega, by go_num, no_succ Hno.out Hx.out hpx, Below.later Hb.out hb1⟩
        case measure => simp [intOf]; omega
    · obtain rfl : k = n := by omega
      have Hno := Lib.hid hno
      have Hb := Lib.hid hb
      clear hno hb
      go_wp2
      go_ret
      exact ⟨ret_int (idxB_no (by rw [hl]; exact Hno.out)).symm, Hb.out⟩

set_option maxHeartbeats 400000 in
theorem containsR (g : Nat) (lb : Array Value) (eg : ∀ args w, (callFunc g args).run Try.prog w = .ok (.enter g args) w) (p : Rg → Bool) (A : Option Addr) (n c : Nat) (xs : List Rg) (w : World)
    (hs : Sl 2 encR w w.heap.size A n c xs)
    (hp : ∀ x W, x ∈ xs → Below w.heap.size w W → Calls Try.prog g (#[.agg #[.int .i64 x.lo, .int .i64 x.hi]] ++ lb) W fun e W' => e = .returned (.bool (p x)) ∧ Below W.heap.size W W') :
    Calls Try.prog 61 #[.slice A n c, .func (.func g) #[] lb] w fun e w' => e = .returned (.bool (xs.any p)) ∧ Below w.heap.size w w' := by
  have H := Lib.hid (indexR g lb eg p A n c xs w hs hp)
  clear hs hp
  go_enter Try.func61, Try.ntmps61
  go_wp2_with (go_at_call 80; refine H.out.mono ?_; rintro e w1 ⟨rfl, hb1⟩)
  go_ret
  exact ⟨ret_bool (idxB_ge p xs 0), hb1⟩

theorem idxB_has (x : Int) (xs : List Int) : decide (0 ≤ idxB (fun y => x == y) xs 0) = xs.contains x := by
  rw [idxB_ge]
  induction xs with
  | nil => rfl
  | cons y l ih => simp only [List.any_cons, ih, List.contains_cons]
end Go.Proofs.Ytbbdlebmagknmaa
