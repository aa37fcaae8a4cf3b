/- The walk of SteamOrders. -/
import Derived.Test.YtbbdlebmagknmaaSRefE
import Derived.Test.YtbbdlebmagknmaaSAllF
namespace Go.Proofs.Ytbbdlebmagknmaa
open Go.RowKit Go.Shelf

set_option maxRecDepth 100000 in
set_option maxHeartbeats 4000000 in
theorem orders_law (L : Int) (A : Option Addr) (n c : Nat) (rs : List Rg) (w : World) (hs : Sl 2 encR w w.heap.size A n c rs) :
    Calls Try.prog 5 #[.agg #[.int .i64 L, .slice A n c]] w fun e w' => e = .returned (.bool true) ∧ Below w.heap.size w w' := by
  obtain rfl := hs.len
  have hB := balloc (brefl w) (.cells #[.int .i64 L, .slice A rs.length c] 24)
  have HK0 := Lib.hid (show LW w (w.alloc (.cells #[.int .i64 L, .slice A rs.length c] 24)) w.heap.size L A rs.length c rs from ⟨hB, Blk.new w _ _, hs.later hB⟩)
  clear hB hs
  have hgr := Lib.hid (fun W => great_any L A rs.length c W)
  obtain ⟨c0, c1, c2⟩ := HK0.out.cells
  cases hg : grB rs.length with
  | true =>
    rw [hg] at hgr
    go_enter Try.func5, Try.ntmps5
    go_wp2_with fail
    refine (hgr.out _).mono ?_
    rintro e w1 ⟨rfl, hb⟩
    have HK1 := Lib.hid (HK0.out.later hb)
    clear hb HK0 c0 c1 c2
    obtain ⟨c0, c1, c2⟩ := HK1.out.cells
    go_wp2_with fail
    refine (works_any _).mono ?_
    rintro e we ⟨rfl, hbe⟩
    have HBE := Lib.hid (Below.later HK1.out.bel hbe)
    clear hbe
    go_wp2
    go_ret
    exact ⟨rfl, HBE.out⟩
  | false =>
    rw [hg] at hgr
    obtain ⟨x5, hx5⟩ : ∃ x, yardE L rs = x := ⟨_, rfl⟩
    obtain ⟨xs, hxs⟩ : ∃ x, earlyV L rs = x := ⟨_, rfl⟩
    obtain ⟨ys, hys⟩ : ∃ x, lateV L rs = x := ⟨_, rfl⟩
    have X5 := Lib.hid hx5
    have X1 := Lib.hid hxs
    have X2 := Lib.hid hys
    clear hg hx5 hxs hys
    go_enter Try.func5, Try.ntmps5
    go_wp2_with fail
    refine (hgr.out _).mono ?_
    rintro e w2 ⟨rfl, hb⟩
    have HK1 := Lib.hid (HK0.out.later hb)
    clear hb HK0 c0 c1 c2
    obtain ⟨c0, c1, c2⟩ := HK1.out.cells
    go_wp2_with fail
    refine (early_any L A rs.length c rs _ HK1.out.sl).mono ?_
    rintro e w3 ⟨v1, rfl, hb, ho⟩
    have HK2 := Lib.hid (HK1.out.later hb)
    clear hb HK1 c0 c1 c2
    obtain ⟨c0, c1, c2⟩ := HK2.out.cells
    rw [X5.out]
    rw [X1.out] at ho
    obtain ⟨G1, d1, rfl, hsl⟩ := own_slI ho rfl
    have HA2 := Lib.hid hsl
    clear ho hsl
    go_wp2_with fail
    refine (refEarly_any L A rs.length c rs _ HK2.out.sl).mono ?_
    rintro e w4 ⟨v2, rfl, hb, ho⟩
    have HK3 := Lib.hid (HK2.out.later hb)
    have HA3 := Lib.hid (HA2.out.later hb)
    clear hb HK2 HA2 c0 c1 c2
    obtain ⟨c0, c1, c2⟩ := HK3.out.cells
    rw [X5.out]
    rw [X1.out] at ho
    obtain ⟨G2, d2, rfl, hsl⟩ := own_slI ho rfl
    have HB3 := Lib.hid hsl
    clear ho hsl
    go_wp2_with fail
    refine (late_any L A rs.length c rs _ HK3.out.sl).mono ?_
    rintro e w5 ⟨v3, rfl, hb, ho, _⟩
    have HK4 := Lib.hid (HK3.out.later hb)
    have HA4 := Lib.hid (HA3.out.later hb)
    have HB4 := Lib.hid (HB3.out.later hb)
    clear hb HK3 HA3 HB3 c0 c1 c2
    obtain ⟨c0, c1, c2⟩ := HK4.out.cells
    rw [X5.out]
    rw [X2.out] at ho
    obtain ⟨G3, d3, rfl, hsl⟩ := own_slI ho rfl
    have HC4 := Lib.hid hsl
    clear ho hsl
    go_wp2_with fail
    refine (refLate_any L A rs.length c rs _ HK4.out.sl).mono ?_
    rintro e w6 ⟨v4, rfl, hb, ho⟩
    have HK5 := Lib.hid (HK4.out.later hb)
    have HA5 := Lib.hid (HA4.out.later hb)
    have HB5 := Lib.hid (HB4.out.later hb)
    have HC5 := Lib.hid (HC4.out.later hb)
    clear hb HK4 HA4 HB4 HC4 c0 c1 c2
    obtain ⟨c0, c1, c2⟩ := HK5.out.cells
    rw [X5.out]
    rw [X2.out] at ho
    obtain ⟨G4, d4, rfl, hsl⟩ := own_slI ho rfl
    have HD5 := Lib.hid hsl
    clear ho hsl
    go_wp2_with fail
    refine (longsEq_any _ _ _ _ _ _ _ _ _ HA5.out HB5.out).mono ?_
    rintro e w7 ⟨rfl, hb⟩
    have HK6 := Lib.hid (HK5.out.later hb)
    have HA6 := Lib.hid (HA5.out.later hb)
    have HB6 := Lib.hid (HB5.out.later hb)
    have HC6 := Lib.hid (HC5.out.later hb)
    have HD6 := Lib.hid (HD5.out.later hb)
    clear hb HK5 HA5 HB5 HC5 HD5 c0 c1 c2
    obtain ⟨c0, c1, c2⟩ := HK6.out.cells
    rw [show decide (xs = xs) = true by simp]
    go_wp2_with fail
    refine (longsEq_any _ _ _ _ _ _ _ _ _ HC6.out HD6.out).mono ?_
    rintro e w8 ⟨rfl, hb⟩
    have HK7 := Lib.hid (HK6.out.later hb)
    have HC7 := Lib.hid (HC6.out.later hb)
    have HD7 := Lib.hid (HD6.out.later hb)
    clear hb HK6 HC6 HD6 c0 c1 c2
    obtain ⟨c0, c1, c2⟩ := HK7.out.cells
    rw [show decide (ys = ys) = true by simp]
    go_wp2_with fail
    refine (works_any _).mono ?_
    rintro e we ⟨rfl, hbe⟩
    have HBE := Lib.hid (Below.later HK7.out.bel hbe)
    clear hbe
    go_wp2
    go_ret
    exact ⟨rfl, HBE.out⟩
end Go.Proofs.Ytbbdlebmagknmaa
