/- steam.isWindow and the document's: which ranges are windows. -/
import Derived.Test.YtbbdlebmagknmaaSBlk
namespace Go.Proofs.Ytbbdlebmagknmaa
open Go.RowKit Go.Shelf

/-- A range of hours. -/
def winB (r : Rg) : Bool := (inR 0 100 r.lo && inR 0 100 r.hi) && decide (r.lo ≤ r.hi)
theorem Sl.two {w : World} {B b : Nat} {x y : Int} (hb : b < B) (h0 : w.cell? ⟨b, 0, none⟩ = some (.int .i64 x)) (h1 : w.cell? ⟨b, 1, none⟩ = some (.int .i64 y)) : Sl 1 encI w B (some ⟨b, 0, none⟩) 2 2 [x, y] :=
  ⟨rfl, by omega, by omega, fun _ => ⟨b, 0, rfl, hb, fun i z hz j u hu => by
    match i, hz with
    | 0, rfl => match j, hu with
      | 0, rfl => simpa using h0
    | 1, rfl => match j, hu with
      | 0, rfl => simpa using h1⟩⟩
theorem two_any (a b : Int) : (!([a, b].any (outR 0 100))) = (inR 0 100 a && inR 0 100 b) := by
  rw [Bool.eq_iff_iff, Bool.and_eq_true, inR_iff, inR_iff]
  simp [outR_eq, outB]
set_option maxHeartbeats 1000000 in
theorem window_any (r : Rg) (w : World) :
    Calls Try.prog 57 #[.agg #[.int .i64 r.lo, .int .i64 r.hi]] w fun e w' => e = .returned (.bool (winB r)) ∧ Below w.heap.size w w' := by
  obtain ⟨a, b⟩ := r
  obtain ⟨q, hq⟩ : ∃ q, (inR 0 100 a && inR 0 100 b) = q := ⟨_, rfl⟩
  have hB := balloc (brefl w) (.cells #[.int .i64 a, .int .i64 b] 27)
  have HB0 := Lib.hid (show Blk (w.alloc (.cells #[.int .i64 a, .int .i64 b] 27)) w.heap.size 27 #[.int .i64 a, .int .i64 b] from Blk.new w _ _)
  have HE := Lib.hid (show winB ⟨a, b⟩ = (q && decide (a ≤ b)) by unfold winB; rw [hq])
  have Hq := Lib.hid hq
  clear hq
  go_enter Try.func57, Try.ntmps57
  go_wp2_with fail
  refine (within_any 0 100 (some ⟨w.heap.size + 1, 0, none⟩) 2 2 [a, b] _ (Sl.two (by simp) (by go_simp) (by go_simp))).mono ?_
  rintro e w1 ⟨rfl, hb1⟩
  rw [two_any, Hq.out]
  have hb2 := (HB0.out.alloc (.cells #[.int .i64 a, .int .i64 b] 2)).later hb1
  have c0 := hb2.cell 0
  have c1 := hb2.cell 1
  have c2 := hb2.lt
  have HB := Lib.hid (Below.later (balloc (balloc (brefl w) (.cells #[.int .i64 a, .int .i64 b] 27)) (.cells #[.int .i64 a, .int .i64 b] 2)) hb1)
  clear hb1 hb2
  cases q
  all_goals
    go_wp2
    go_ret
    exact ⟨ret_bool (by rw [HE.out]; simp), HB.out⟩
def badR (x : Rg) : Bool := !winB x
set_option maxHeartbeats 1000000 in
theorem badR_any (x : Rg) (w : World) :
    Calls Try.prog 62 #[.agg #[.int .i64 x.lo, .int .i64 x.hi]] w fun e w' => e = .returned (.bool (badR x)) ∧ Below w.heap.size w w' := by
  have HB := Lib.hid (balloc (brefl w) (.cells #[.int .i64 x.lo, .int .i64 x.hi] 27))
  go_enter Try.func62, Try.ntmps62
  go_wp2_with fail
  refine (window_any x _).mono ?_
  rintro e w1 ⟨rfl, hb1⟩
  have HB1 := Lib.hid (Below.later HB.out hb1)
  clear hb1
  go_wp2
  go_ret
  exact ⟨rfl, HB1.out⟩
/-- The error of a yard. -/
def yardE (L : Int) (rs : List Rg) : Int := if inR 1 10 L then (if (10 : Int) < rs.length then 6 else if rs.any badR then 3 else 0) else 3
set_option maxHeartbeats 1000000 in
theorem checkYard_any (L : Int) (A : Option Addr) (n c : Nat) (rs : List Rg) (w : World) (hs : Sl 2 encR w w.heap.size A n c rs) :
    Calls Try.prog 23 #[.agg #[.int .i64 L, .slice A n c]] w fun e w' => e = .returned (.int .i64 (yardE L rs)) ∧ Below w.heap.size w w' := by
  obtain rfl := hs.len
  have Hs := Lib.hid hs
  obtain ⟨q, hq⟩ : ∃ q, inR 1 10 L = q := ⟨_, rfl⟩
  have HB0 := Lib.hid (show Blk (w.alloc (.cells #[.int .i64 L, .slice A rs.length c] 24)) w.heap.size 24 #[.int .i64 L, .slice A rs.length c] from Blk.new w _ _)
  have HE := Lib.hid (show yardE L rs = if q then (if (10 : Int) < rs.length then 6 else if rs.any badR then 3 else 0) else 3 by unfold yardE; rw [hq])
  have Hq := Lib.hid hq
  clear hs hq
  go_enter Try.func23, Try.ntmps23
  go_wp2_with fail
  refine (within_one 1 10 L (w.heap.size + 1) _ (by simp) (by go_simp)).mono ?_
  rintro e w1 ⟨rfl, hb1⟩
  rw [Hq.out]
  have hb2 := (HB0.out.alloc (.cells #[.int .i64 L] 2)).later hb1
  have c0 := hb2.cell 0
  have c1 := hb2.cell 1
  have c2 := hb2.lt
  have HB := Lib.hid (Below.later (balloc (balloc (brefl w) (.cells #[.int .i64 L, .slice A rs.length c] 24)) (.cells #[.int .i64 L] 2)) hb1)
  clear hb1 hb2
  cases q with
  | false =>
    go_wp2
    go_ret
    exact ⟨ret_int (by rw [HE.out]; rfl), HB.out⟩
  | true =>
    by_cases h10 : (10 : Int) < (rs.length : Int)
    · have d1 : decide ((10 : Int) < (rs.length : Int)) = true := by simpa using h10
      have HE2 := Lib.hid (show yardE L rs = 6 by rw [HE.out, if_pos rfl, if_pos h10])
      clear h10
      go_wp2
      go_ret
      exact ⟨ret_int HE2.out.symm, HB.out⟩
    · have d1 : decide ((10 : Int) < (rs.length : Int)) = false := by simpa using h10
      have HE2 := Lib.hid (show yardE L rs = if rs.any badR then 3 else 0 by rw [HE.out, if_pos rfl, if_neg h10])
      clear h10
      go_wp2_with fail
      refine (containsR 62 #[] (enters_of Try.func62 (by kernel_rfl) rfl) badR A _ c rs _ (Hs.out.later HB.out) (fun x W _ _ => badR_any x W)).mono ?_
      rintro e w2 ⟨rfl, hb2⟩
      have HB2 := Lib.hid (Below.later HB.out hb2)
      clear hb2
      cases hk : rs.any badR with
      | false =>
        have HE3 := Lib.hid (show yardE L rs = 0 by rw [HE2.out, hk]; rfl)
        clear hk
        go_wp2
        go_ret
        exact ⟨ret_int HE3.out.symm, HB2.out⟩
      | true =>
        have HE3 := Lib.hid (show yardE L rs = 3 by rw [HE2.out, hk]; rfl)
        clear hk
        go_wp2
        go_ret
        exact ⟨ret_int HE3.out.symm, HB2.out⟩
end Go.Proofs.Ytbbdlebmagknmaa
