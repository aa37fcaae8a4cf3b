/- Orders and rows of numbers, as chapter 9's lists of them lie in memory; slices.IndexFunc and slices.ContainsFunc over them. -/
import Derived.Test.YtmfiggbobaihcaaBase
namespace Go.Proofs.Ytmfiggbobaihcaa
open Go.RowKit Go.Shelf

structure Od where
  g : Int
  m : Int
  deriving DecidableEq
def encO (x : Od) : List Value := [.int .i64 x.g, .int .i64 x.m]
theorem Sl.ltO {w : World} {B : Nat} {A : Option Addr} {n c : Nat} {xs : List Od} (h : Sl 2 encO w B A n c xs) {i : Nat} (hi : i < n) : ∃ b o x, A = some ⟨b, o, none⟩ ∧ b < B ∧ xs[i]? = some x ∧ w.cell? ⟨b, o + i * 2, none⟩ = some (.int .i64 x.g) ∧ w.cell? ⟨b, o + i * 2 + 1, none⟩ = some (.int .i64 x.m) := by
  obtain ⟨b, o, x, hA, hB, hx, hc⟩ := h.lt hi
  exact ⟨b, o, x, hA, hB, hx, by simpa using hc 0 _ rfl, by simpa using hc 1 _ rfl⟩
/-- A row: a slice of numbers, and what it reads as. -/
structure Rw where
  A : Option Addr
  n : Nat
  c : Nat
  xs : List Int
def encW (x : Rw) : List Value := [.slice x.A x.n x.c]
theorem Sl.ltW {w : World} {B : Nat} {A : Option Addr} {n c : Nat} {xs : List Rw} (h : Sl 1 encW w B A n c xs) {i : Nat} (hi : i < n) : ∃ b o x, A = some ⟨b, o, none⟩ ∧ b < B ∧ xs[i]? = some x ∧ w.cell? ⟨b, o + i, none⟩ = some (.slice x.A x.n x.c) := by
  obtain ⟨b, o, x, hA, hB, hx, hc⟩ := h.lt hi
  exact ⟨b, o, x, hA, hB, hx, by simpa using hc 0 _ rfl⟩
set_option maxHeartbeats 400000 in
theorem indexL (g : Nat) (lb : Array Value) (eg : ∀ args w, (callFunc g args).run Try.prog w = .ok (.enter g args) w) (p : Int → Bool) (A : Option Addr) (n c : Nat) (xs : List Int) (w : World)
    (hs : Sl 1 encI w w.heap.size A n c xs)
    (hp : ∀ x W, x ∈ xs → Below w.heap.size w W → Calls Try.prog g (#[.int .i64 x] ++ lb) W fun e W' => e = .returned (.bool (p x)) ∧ Below W.heap.size W W') :
    Calls Try.prog 92 #[.slice A n c, .func (.func g) #[] lb] w fun e w' => e = .returned (.int .i64 (idxB p xs 0)) ∧ Below w.heap.size w w' := by
  have hl := hs.len
  have hcap := hs.cap
  have hbig := hs.big
  have Hp := Lib.hid hp
  clear hp
  go_enter Try.func92, Try.ntmps92
  go_wp2
  go_loopw [8] (fun i wr => ∃ k : Nat, k ≤ n ∧ i = .int .i64 k ∧ (∀ j x, j < k → xs[j]? = some x → p x = false) ∧ Below w.heap.size w wr) (fun i _ => n - (intOf i).toNat)
  case atStart => exact ⟨0, by omega, rfl, by omega, Below.refl _ _⟩
  case round =>
    obtain ⟨k, hk, rfl, hno, hb⟩ := hrel
    by_cases hlt : k < n
    · obtain ⟨b, o, x, rfl, hB, hx, hc0⟩ := (hs.below hb).ltI hlt
      have Hno := Lib.hid hno
      have Hx := Lib.hid hx
      have Hb := Lib.hid hb
      clear hno hx hb
      go_wp2_with (go_at_fn g; refine (Hp.out x _ (List.mem_of_getElem? Hx.out) Hb.out).mono ?_; rintro e w1 ⟨rfl, hb1⟩)
      · have hpx : p x = true := by assumption
        go_ret
        exact ⟨ret_int (idxB_at Hno.out Hx.out hpx).symm, Below.later Hb.out hb1⟩
      · have hpx : p x = false := by assumption
        go_roundw
        case rel => exact ⟨k + 1, by omega, by go_num, no_succ Hno.out Hx.out hpx, Below.later Hb.out hb1⟩
        case measure => simp [intOf]; omega
    · obtain rfl : k = n := by omega
      have Hno := Lib.hid hno
      have Hb := Lib.hid hb
      clear hno hb
      go_wp2
      go_ret
      exact ⟨ret_int (idxB_no (by rw [hl]; exact Hno.out)).symm, Hb.out⟩

set_option maxHeartbeats 400000 in
theorem containsL (g : Nat) (lb : Array Value) (eg : ∀ args w, (callFunc g args).run Try.prog w = .ok (.enter g args) w) (p : Int → Bool) (A : Option Addr) (n c : Nat) (xs : List Int) (w : World)
    (hs : Sl 1 encI w w.heap.size A n c xs)
    (hp : ∀ x W, x ∈ xs → Below w.heap.size w W → Calls Try.prog g (#[.int .i64 x] ++ lb) W fun e W' => e = .returned (.bool (p x)) ∧ Below W.heap.size W W') :
    Calls Try.prog 85 #[.slice A n c, .func (.func g) #[] lb] w fun e w' => e = .returned (.bool (xs.any p)) ∧ Below w.heap.size w w' := by
  have H := Lib.hid (indexL g lb eg p A n c xs w hs hp)
  clear hs hp
  go_enter Try.func85, Try.ntmps85
  go_wp2_with (go_at_call 92; refine H.out.mono ?_; rintro e w1 ⟨rfl, hb1⟩)
  go_ret
  exact ⟨ret_bool (idxB_ge p xs 0), hb1⟩

set_option maxHeartbeats 400000 in
theorem indexO (g : Nat) (lb : Array Value) (eg : ∀ args w, (callFunc g args).run Try.prog w = .ok (.enter g args) w) (p : Od → Bool) (A : Option Addr) (n c : Nat) (xs : List Od) (w : World)
    (hs : Sl 2 encO w w.heap.size A n c xs)
    (hp : ∀ x W, x ∈ xs → Below w.heap.size w W → Calls Try.prog g (#[.agg #[.int .i64 x.g, .int .i64 x.m]] ++ lb) W fun e W' => e = .returned (.bool (p x)) ∧ Below W.heap.size W W') :
    Calls Try.prog 87 #[.slice A n c, .func (.func g) #[] lb] w fun e w' => e = .returned (.int .i64 (idxB p xs 0)) ∧ Below w.heap.size w w' := by
  have hl := hs.len
  have hcap := hs.cap
  have hbig := hs.big
  have Hp := Lib.hid hp
  clear hp
  go_enter Try.func87, Try.ntmps87
  go_wp2
  go_loopw [8] (fun i wr => ∃ k : Nat, k ≤ n ∧ i = .int .i64 k ∧ (∀ j x, j < k → xs[j]? = some x → p x = false) ∧ Below w.heap.size w wr) (fun i _ => n - (intOf i).toNat)
  case atStart => exact ⟨0, by omega, rfl, by omega, Below.refl _ _⟩
  case round =>
    obtain ⟨k, hk, rfl, hno, hb⟩ := hrel
    by_cases hlt : k < n
    · obtain ⟨b, o, x, rfl, hB, hx, hc0, hc1⟩ := (hs.below hb).ltO hlt
      have Hno := Lib.hid hno
      have Hx := Lib.hid hx
      have Hb := Lib.hid hb
      clear hno hx hb
      go_wp2_with (go_at_fn g; refine (Hp.out x _ (List.mem_of_getElem? Hx.out) Hb.out).mono ?_; rintro e w1 ⟨rfl, hb1⟩)
      · have hpx : p x = true := by assumption
        go_ret
        exact ⟨ret_int (idxB_at Hno.out Hx.out hpx).symm, Below.later Hb.out hb1⟩
      · have hpx : p x = false := by assumption
        go_roundw
        case rel => exact ⟨k + 1, by omega, by go_num, no_succ Hno.out Hx.out hpx, Below.later Hb.out hb1⟩
        case measure => simp [intOf]; omega
    · obtain rfl : k = n := by omega
      have Hno := Lib.hid hno
      have Hb := Lib.hid hb
      clear hno hb
      go_wp2
      go_ret
      exact ⟨ret_int (idxB_no (by rw [hl]; exact Hno.out)).symm, Hb.out⟩

set_option maxHeartbeats 400000 in
theorem containsO (g : Nat) (lb : Array Value) (eg : ∀ args w, (callFunc g args).run Try.prog w = .ok (.enter g args) w) (p : Od → Bool) (A : Option Addr) (n c : Nat) (xs : List Od) (w : World)
    (hs : Sl 2 encO w w.heap.size A n c xs)
    (hp : ∀ x W, x ∈ xs → Below w.heap.size w W → Calls Try.prog g (#[.agg #[.int .i64 x.g, .int .i64 x.m]] ++ lb) W fun e W' => e = .returned (.bool (p x)) ∧ Below W.heap.size W W') :
    Calls Try.prog 65 #[.slice A n c, .func (.func g) #[] lb] w fun e w' => e = .returned (.bool (xs.any p)) ∧ Below w.heap.size w w' := by
  have H := Lib.hid (indexO g lb eg p A n c xs w hs hp)
  clear hs hp
  go_enter Try.func65, Try.ntmps65
  go_wp2_with (go_at_call 87; refine H.out.mono ?_; rintro e w1 ⟨rfl, hb1⟩)
  go_ret
  exact ⟨ret_bool (idxB_ge p xs 0), hb1⟩

set_option maxHeartbeats 400000 in
theorem indexV (g : Nat) (lb : Array Value) (eg : ∀ args w, (callFunc g args).run Try.prog w = .ok (.enter g args) w) (p : Rw → Bool) (A : Option Addr) (n c : Nat) (xs : List Rw) (w : World)
    (hs : Sl 1 encW w w.heap.size A n c xs)
    (hp : ∀ x W, x ∈ xs → Below w.heap.size w W → Calls Try.prog g (#[.slice x.A x.n x.c] ++ lb) W fun e W' => e = .returned (.bool (p x)) ∧ Below W.heap.size W W') :
    Calls Try.prog 84 #[.slice A n c, .func (.func g) #[] lb] w fun e w' => e = .returned (.int .i64 (idxB p xs 0)) ∧ Below w.heap.size w w' := by
  have hl := hs.len
  have hcap := hs.cap
  have hbig := hs.big
  have Hp := Lib.hid hp
  clear hp
  go_enter Try.func84, Try.ntmps84
  go_wp2
  go_loopw [8] (fun i wr => ∃ k : Nat, k ≤ n ∧ i = .int .i64 k ∧ (∀ j x, j < k → xs[j]? = some x → p x = false) ∧ Below w.heap.size w wr) (fun i _ => n - (intOf i).toNat)
  case atStart => exact ⟨0, by omega, rfl, by omega, Below.refl _ _⟩
  case round =>
    obtain ⟨k, hk, rfl, hno, hb⟩ := hrel
    by_cases hlt : k < n
    · obtain ⟨b, o, x, rfl, hB, hx, hc0⟩ := (hs.below hb).ltW hlt
      have Hno := Lib.hid hno
      have Hx := Lib.hid hx
      have Hb := Lib.hid hb
      clear hno hx hb
      go_wp2_with (go_at_fn g; refine (Hp.out x _ (List.mem_of_getElem? Hx.out) Hb.out).mono ?_; rintro e w1 ⟨rfl, hb1⟩)
      · have hpx : p x = true := by assumption
        go_ret
        exact ⟨ret_int (idxB_at Hno.out Hx.out hpx).symm, Below.later Hb.out hb1⟩
      · have hpx : p x = false := by assumption
        go_roundw
        case rel => exact ⟨k + 1, by omega, by go_num, no_succ Hno.out Hx.out hpx, Below.later Hb.out hb1⟩
        case measure => simp [intOf]; omega
    · obtain rfl : k = n := by omega
      have Hno := Lib.hid hno
      have Hb := Lib.hid hb
      clear hno hb
      go_wp2
      go_ret
      exact ⟨ret_int (idxB_no (by rw [hl]; exact Hno.out)).symm, Hb.out⟩

set_option maxHeartbeats 400000 in
theorem containsV (g : Nat) (lb : Array Value) (eg : ∀ args w, (callFunc g args).run Try.prog w = .ok (.enter g args) w) (p : Rw → Bool) (A : Option Addr) (n c : Nat) (xs : List Rw) (w : World)
    (hs : Sl 1 encW w w.heap.size A n c xs)
    (hp : ∀ x W, x ∈ xs → Below w.heap.size w W → Calls Try.prog g (#[.slice x.A x.n x.c] ++ lb) W fun e W' => e = .returned (.bool (p x)) ∧ Below W.heap.size W W') :
    Calls Try.prog 58 #[.slice A n c, .func (.func g) #[] lb] w fun e w' => e = .returned (.bool (xs.any p)) ∧ Below w.heap.size w w' := by
  have H := Lib.hid (indexV g lb eg p A n c xs w hs hp)
  clear hs hp
  go_enter Try.func58, Try.ntmps58
  go_wp2_with (go_at_call 84; refine H.out.mono ?_; rintro e w1 ⟨rfl, hb1⟩)
  go_ret
  exact ⟨ret_bool (idxB_ge p xs 0), hb1⟩

end Go.Proofs.Ytmfiggbobaihcaa
