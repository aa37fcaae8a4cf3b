/- The walk of SteamFewests. -/
import Derived.Test.YtbbdlebmagknmaaSRefE
import Derived.Test.YtbbdlebmagknmaaSAllF
namespace Go.Proofs.Ytbbdlebmagknmaa
open Go.RowKit Go.Shelf

set_option maxRecDepth 100000 in
set_option maxHeartbeats 4000000 in
theorem fewests_law (L : Int) (A : Option Addr) (n c : Nat) (rs : List Rg) (WA : Option Addr) (wn wc : Nat) (ws : List Rg) (w : World) (hs : Sl 2 encR w w.heap.size A n c rs) (hws : Sl 2 encR w w.heap.size WA wn wc ws) :
    Calls Try.prog 4 #[.agg #[.int .i64 L, .slice A n c], .slice WA wn wc] w fun e w' => e = .returned (.bool true) ∧ Below w.heap.size w w' := by
  obtain rfl := hs.len
  have hB := balloc (brefl w) (.cells #[.int .i64 L, .slice A rs.length c] 24)
  have HK0 := Lib.hid (show LW w (w.alloc (.cells #[.int .i64 L, .slice A rs.length c] 24)) w.heap.size L A rs.length c rs from ⟨hB, Blk.new w _ _, hs.later hB⟩)
  have HW0 := Lib.hid (hws.later hB)
  clear hB hs hws
  have hgr := Lib.hid (fun W => great_any L A rs.length c W)
  obtain ⟨c0, c1, c2⟩ := HK0.out.cells
  cases hg : grB rs.length with
  | true =>
    rw [hg] at hgr
    go_enter Try.func4, Try.ntmps4
    go_wp2_with fail
    refine (hgr.out _).mono ?_
    rintro e w1 ⟨rfl, hb⟩
    have HK1 := Lib.hid (HK0.out.later hb)
    have HW1 := Lib.hid (HW0.out.later hb)
    clear hb HK0 HW0 c0 c1 c2
    obtain ⟨c0, c1, c2⟩ := HK1.out.cells
    go_wp2_with fail
    refine (works_any _).mono ?_
    rintro e we ⟨rfl, hbe⟩
    have HBE := Lib.hid (Below.later HK1.out.bel hbe)
    clear hbe
    go_wp2
    go_ret
    exact ⟨rfl, HBE.out⟩
  | false =>
    rw [hg] at hgr
    cases hcn : decide ((16 : Int) < (wn : Int)) with
    | true =>
      go_enter Try.func4, Try.ntmps4
      go_wp2_with fail
      refine (hgr.out _).mono ?_
      rintro e w2 ⟨rfl, hb⟩
      have HK1 := Lib.hid (HK0.out.later hb)
      have HW1 := Lib.hid (HW0.out.later hb)
      clear hb HK0 HW0 c0 c1 c2
      obtain ⟨c0, c1, c2⟩ := HK1.out.cells
      go_wp2_with fail
      refine (works_any _).mono ?_
      rintro e we ⟨rfl, hbe⟩
      have HBE := Lib.hid (Below.later HK1.out.bel hbe)
      clear hbe
      go_wp2
      go_ret
      exact ⟨rfl, HBE.out⟩
    | false =>
      obtain ⟨x1, hx1⟩ : ∃ x, fewV L rs = x := ⟨_, rfl⟩
      obtain ⟨x3, hx3⟩ : ∃ x, proofV L rs ws = x := ⟨_, rfl⟩
      obtain ⟨x4, hx4⟩ : ∃ x, proofE L rs ws = x := ⟨_, rfl⟩
      have X1 := Lib.hid hx1
      have X3 := Lib.hid hx3
      have X4 := Lib.hid hx4
      by_cases he : yardE L rs = 0
      · obtain ⟨Ln, rfl, hLn, hr⟩ := yard_nat he
        have hxv : LA rs Ln 101 = x1 := by rw [← hx1]; exact (fewV_of he).symm
        have Hxv := Lib.hid hxv
        have X5 := Lib.hid he
        have Hr := Lib.hid hr
        have hn10 := hr.1
        clear hx1 hx3 hx4 hg hxv he hr
        go_enter Try.func4, Try.ntmps4
        go_wp2_with fail
        refine (hgr.out _).mono ?_
        rintro e w3 ⟨rfl, hb⟩
        have HK1 := Lib.hid (HK0.out.later hb)
        have HW1 := Lib.hid (HW0.out.later hb)
        clear hb HK0 HW0 c0 c1 c2
        obtain ⟨c0, c1, c2⟩ := HK1.out.cells
        go_wp2_with fail
        refine (fewest_any (Ln : Int) A rs.length c rs _ HK1.out.sl).mono ?_
        rintro e w4 ⟨rfl, hb⟩
        have HK2 := Lib.hid (HK1.out.later hb)
        have HW2 := Lib.hid (HW1.out.later hb)
        clear hb HK1 HW1 c0 c1 c2
        obtain ⟨c0, c1, c2⟩ := HK2.out.cells
        rw [X1.out, X5.out]
        go_wp2_with fail
        refine (refFewest_any (Ln : Int) A rs.length c rs _ HK2.out.sl).mono ?_
        rintro e w5 ⟨rfl, hb⟩
        have HK3 := Lib.hid (HK2.out.later hb)
        have HW3 := Lib.hid (HW2.out.later hb)
        clear hb HK2 HW2 c0 c1 c2
        obtain ⟨c0, c1, c2⟩ := HK3.out.cells
        rw [X1.out, X5.out]
        go_wp2_with fail
        refine (checkProof_any (Ln : Int) A rs.length c rs WA wn wc ws _ HK3.out.sl HW3.out).mono ?_
        rintro e w6 ⟨rfl, hb⟩
        have HK4 := Lib.hid (HK3.out.later hb)
        have HW4 := Lib.hid (HW3.out.later hb)
        clear hb HK3 HW3 c0 c1 c2
        obtain ⟨c0, c1, c2⟩ := HK4.out.cells
        rw [X3.out, X4.out]
        go_wp2_with fail
        refine (refProof_any (Ln : Int) A rs.length c rs WA wn wc ws _ HK4.out.sl HW4.out).mono ?_
        rintro e w7 ⟨rfl, hb⟩
        have HK5 := Lib.hid (HK4.out.later hb)
        have HW5 := Lib.hid (HW4.out.later hb)
        clear hb HK4 HW4 c0 c1 c2
        obtain ⟨c0, c1, c2⟩ := HK5.out.cells
        rw [X3.out, X4.out]
        go_wp2_with fail
        refine (hours_ok Ln A c rs _ HK5.out.sl X5.out).mono ?_
        rintro e w8 ⟨g, l, ts, F, rfl, hb, hok, hsl⟩
        have HK6 := Lib.hid (HK5.out.later hb)
        clear hb HK5 c0 c1 c2
        obtain ⟨c0, c1, c2⟩ := HK6.out.cells
        have h1 := fill_hours hok Hr.out hLn
        rw [Hxv.out] at h1
        obtain ⟨hh, hhe⟩ : ∃ hh, (List.range rs.length).map F = hh := ⟨_, rfl⟩
        rw [hhe] at h1 hsl
        have H1 := Lib.hid h1
        have HS6 := Lib.hid hsl
        clear hok hsl h1 hhe
        go_wp2_with fail
        refine (proofC_ok Ln A c rs _ HK6.out.sl X5.out).mono ?_
        rintro e w9 ⟨g2, vs, rfl, hb, hwsl, hch⟩
        have HK7 := Lib.hid (HK6.out.later hb)
        have HS7 := Lib.hid (HS6.out.later hb)
        clear hb HK6 HS6 c0 c1 c2
        obtain ⟨c0, c1, c2⟩ := HK7.out.cells
        have h2 := chain_proof Hr.out hLn hch
        rw [Hxv.out] at h2
        have hw10 := h2.1.1
        have hwd : ¬ ((16 : Int) < (vs.length : Int)) := by omega
        have hnd : ¬ ((16 : Int) < (rs.length : Int)) := by omega
        have H2 := Lib.hid h2
        have HV7 := Lib.hid hwsl
        clear hch hwsl h2
        go_wp2_with fail
        refine (refHours_any (Ln : Int) A rs.length c rs _ _ _ hh _ HK7.out.sl HS7.out).mono ?_
        rintro e w10 ⟨rfl, hb⟩
        have HK8 := Lib.hid (HK7.out.later hb)
        have HS8 := Lib.hid (HS7.out.later hb)
        have HV8 := Lib.hid (HV7.out.later hb)
        clear hb HK7 HS7 HV7 c0 c1 c2
        obtain ⟨c0, c1, c2⟩ := HK8.out.cells
        rw [H1.out.1, H1.out.2]
        go_wp2_with fail
        refine (refProof_any (Ln : Int) A rs.length c rs _ _ _ vs _ HK8.out.sl HV8.out).mono ?_
        rintro e w11 ⟨rfl, hb⟩
        have HK9 := Lib.hid (HK8.out.later hb)
        have HS9 := Lib.hid (HS8.out.later hb)
        have HV9 := Lib.hid (HV8.out.later hb)
        clear hb HK8 HS8 HV8 c0 c1 c2
        obtain ⟨c0, c1, c2⟩ := HK9.out.cells
        rw [H2.out.1.2, H2.out.2]
        go_wp2_with fail
        refine (works_any _).mono ?_
        rintro e we ⟨rfl, hbe⟩
        have HBE := Lib.hid (Below.later HK9.out.bel hbe)
        clear hbe
        go_wp2
        go_ret
        exact ⟨rfl, HBE.out⟩
      · obtain ⟨x5, hx5⟩ : ∃ x, yardE L rs = x := ⟨_, rfl⟩
        have hne := he
        rw [hx5] at hne
        have X5 := Lib.hid hx5
        have He := Lib.hid he
        have hd : (x5 == 0) = false := by simpa using hne
        have hd2 : decide (x5 = 0) = false := by simpa using hne
        clear hx1 hx3 hx4 hg hx5 he hne
        go_enter Try.func4, Try.ntmps4
        go_wp2_with fail
        refine (hgr.out _).mono ?_
        rintro e w12 ⟨rfl, hb⟩
        have HK1 := Lib.hid (HK0.out.later hb)
        have HW1 := Lib.hid (HW0.out.later hb)
        clear hb HK0 HW0 c0 c1 c2
        obtain ⟨c0, c1, c2⟩ := HK1.out.cells
        go_wp2_with fail
        refine (fewest_any L A rs.length c rs _ HK1.out.sl).mono ?_
        rintro e w13 ⟨rfl, hb⟩
        have HK2 := Lib.hid (HK1.out.later hb)
        have HW2 := Lib.hid (HW1.out.later hb)
        clear hb HK1 HW1 c0 c1 c2
        obtain ⟨c0, c1, c2⟩ := HK2.out.cells
        rw [X1.out, X5.out]
        go_wp2_with fail
        refine (refFewest_any L A rs.length c rs _ HK2.out.sl).mono ?_
        rintro e w14 ⟨rfl, hb⟩
        have HK3 := Lib.hid (HK2.out.later hb)
        have HW3 := Lib.hid (HW2.out.later hb)
        clear hb HK2 HW2 c0 c1 c2
        obtain ⟨c0, c1, c2⟩ := HK3.out.cells
        rw [X1.out, X5.out]
        go_wp2_with fail
        refine (checkProof_any L A rs.length c rs WA wn wc ws _ HK3.out.sl HW3.out).mono ?_
        rintro e w15 ⟨rfl, hb⟩
        have HK4 := Lib.hid (HK3.out.later hb)
        have HW4 := Lib.hid (HW3.out.later hb)
        clear hb HK3 HW3 c0 c1 c2
        obtain ⟨c0, c1, c2⟩ := HK4.out.cells
        rw [X3.out, X4.out]
        go_wp2_with fail
        refine (refProof_any L A rs.length c rs WA wn wc ws _ HK4.out.sl HW4.out).mono ?_
        rintro e w16 ⟨rfl, hb⟩
        have HK5 := Lib.hid (HK4.out.later hb)
        have HW5 := Lib.hid (HW4.out.later hb)
        clear hb HK4 HW4 c0 c1 c2
        obtain ⟨c0, c1, c2⟩ := HK5.out.cells
        rw [X3.out, X4.out]
        go_wp2_with fail
        refine (hours_bad L A rs.length c rs _ HK5.out.sl He.out).mono ?_
        rintro e w17 ⟨rfl, hb⟩
        have HK6 := Lib.hid (HK5.out.later hb)
        clear hb HK5 c0 c1 c2
        obtain ⟨c0, c1, c2⟩ := HK6.out.cells
        rw [X5.out]
        go_wp2_with fail
        refine (proof__bad L A rs.length c rs _ HK6.out.sl He.out).mono ?_
        rintro e w18 ⟨rfl, hb⟩
        have HK7 := Lib.hid (HK6.out.later hb)
        clear hb HK6 c0 c1 c2
        obtain ⟨c0, c1, c2⟩ := HK7.out.cells
        rw [X5.out]
        go_wp2_with fail
        refine (works_any _).mono ?_
        rintro e we ⟨rfl, hbe⟩
        have HBE := Lib.hid (Below.later HK7.out.bel hbe)
        clear hbe
        go_wp2
        go_ret
        exact ⟨rfl, HBE.out⟩
end Go.Proofs.Ytbbdlebmagknmaa
