/- The document's Keep; the walk of SteamKeeps. -/
import Derived.Test.YtbbdlebmagknmaaSRefKeep
namespace Go.Proofs.Ytbbdlebmagknmaa
open Go.RowKit Go.Shelf

theorem listV_sl {W : World} {base : Nat} {l : List Nat} {v : Value} (h : ListV W base l v) : ∃ G k, v = .slice G l.length k ∧ Sl 1 encI W W.heap.size G l.length k (castL l) := by
  have e : l.map encN = (castL l).map (.int .i64) := by unfold castL; rw [List.map_map]; rfl
  have h1 : W.ownsRow base 3 1 v l.length (l.map encN) := h
  rw [e] at h1
  exact own_slI h1 (castL_len l)
theorem inR_dec (lo hi n : Int) : inR lo hi n = (!decide (n < lo) && !decide (hi < n)) := by
  rw [Bool.eq_iff_iff, inR_iff]
  simp only [Bool.and_eq_true, Bool.not_eq_true', decide_eq_false_iff_not]
  omega
set_option maxRecDepth 100000 in
set_option maxHeartbeats 1000000 in
theorem refKeep_any (L : Int) (A : Option Addr) (n c : Nat) (rs : List Rg) (ld : Int) (w : World) (hs : Sl 2 encR w w.heap.size A n c rs) :
    Calls Try.prog 37 #[.agg #[.int .i64 L, .slice A n c], .int .i64 ld] w fun e w' => ∃ G m k, e = .returned (.tuple #[.slice G m k, .int .i64 (keepE L rs ld)]) ∧ Below w.heap.size w w' ∧ Sl 1 encI w' w'.heap.size G m k (castL (keepV L rs ld)) := by
  obtain rfl := hs.len
  have HK0 := Lib.hid (show LW w (w.alloc (.cells #[.int .i64 L, .slice A rs.length c] 24)) w.heap.size L A rs.length c rs from ⟨balloc (brefl w) _, Blk.new w _ _, hs.later (balloc (brefl w) _)⟩)
  obtain ⟨c0, c1, c2⟩ := HK0.out.cells
  by_cases he : yardE L rs = 0
  · obtain ⟨Ln, rfl, hLn, hr⟩ := yard_nat he
    have Hx := Lib.hid he
    have Hr := Lib.hid hr
    have hin := inR_dec 0 10 ld
    by_cases h1 : ld < 0
    · have d1 : decide (ld < 0) = true := by simpa using h1
      rw [d1] at hin
      have HE := Lib.hid (show keepE (Ln : Int) rs ld = 3 ∧ keepV (Ln : Int) rs ld = [] by unfold keepE keepV; rw [if_pos he, if_pos he, hin]; exact ⟨rfl, rfl⟩)
      clear he hr hin h1 hs
      go_enter Try.func37, Try.ntmps37
      go_wp2_with fail
      refine (refYard_any (Ln : Int) A rs.length c rs _ HK0.out.sl).mono ?_
      rintro e w1 ⟨rfl, hb⟩
      have HK1 := Lib.hid (HK0.out.later hb)
      clear hb HK0 c0 c1 c2
      obtain ⟨c0, c1, c2⟩ := HK1.out.cells
      rw [Hx.out]
      go_wp2
      go_ret2
      refine ⟨none, 0, 0, by rw [HE.out.1]; rfl, HK1.out.bel, ?_⟩
      rw [HE.out.2]
      exact Sl.nil_
    by_cases h2 : 10 < ld
    · have d1 : decide (ld < 0) = false := by simpa using h1
      have d2 : decide (10 < ld) = true := by simpa using h2
      rw [d1, d2] at hin
      have HE := Lib.hid (show keepE (Ln : Int) rs ld = 3 ∧ keepV (Ln : Int) rs ld = [] by unfold keepE keepV; rw [if_pos he, if_pos he, hin]; exact ⟨rfl, rfl⟩)
      clear he hr hin h1 h2 hs
      go_enter Try.func37, Try.ntmps37
      go_wp2_with fail
      refine (refYard_any (Ln : Int) A rs.length c rs _ HK0.out.sl).mono ?_
      rintro e w2 ⟨rfl, hb⟩
      have HK1 := Lib.hid (HK0.out.later hb)
      clear hb HK0 c0 c1 c2
      obtain ⟨c0, c1, c2⟩ := HK1.out.cells
      rw [Hx.out]
      go_wp2
      go_ret2
      refine ⟨none, 0, 0, by rw [HE.out.1]; rfl, HK1.out.bel, ?_⟩
      rw [HE.out.2]
      exact Sl.nil_
    · have d1 : decide (ld < 0) = false := by simpa using h1
      have d2 : decide (10 < ld) = false := by simpa using h2
      rw [d1, d2] at hin
      have HE := Lib.hid (show keepE (Ln : Int) rs ld = 0 ∧ keepV (Ln : Int) rs ld = grownF (fitsB rs Ln ld) rs.length rs.length [] [] by
        unfold keepE keepV
        rw [if_pos he, if_pos he, hin, Int.toNat_natCast, grown_pick]
        exact ⟨rfl, rfl⟩)
      have Hg := Lib.hid (refGrown_any Ln ld rs hr hLn rs.length)
      clear he hr hin h1 h2 hs
      go_enter Try.func37, Try.ntmps37
      go_wp2_with fail
      refine (refYard_any (Ln : Int) A rs.length c rs _ HK0.out.sl).mono ?_
      rintro e w3 ⟨rfl, hb⟩
      have HK1 := Lib.hid (HK0.out.later hb)
      clear hb HK0 c0 c1 c2
      obtain ⟨c0, c1, c2⟩ := HK1.out.cells
      rw [Hx.out]
      go_wp2_with fail
      refine (Hg.out A c none 0 [] _ HK1.out.sl Sl.nil_ (by simp) (by simp) 0 (by omega)).mono ?_
      rintro e w9 ⟨G, m, k, rfl, hb, hsl⟩
      have HB9 := Lib.hid (Below.later HK1.out.bel hb)
      have HS9 := Lib.hid hsl
      clear hb hsl c0 c1 c2
      go_wp2
      go_ret2
      refine ⟨G, m, k, by rw [HE.out.1]; rfl, HB9.out, ?_⟩
      rw [HE.out.2]
      exact HS9.out
  · obtain ⟨x, hx⟩ : ∃ x, yardE L rs = x := ⟨_, rfl⟩
    have h0 := he
    rw [hx] at h0
    have hd : (x == 0) = false := by simpa using h0
    have hd2 : decide (x = 0) = false := by simpa using h0
    have HE := Lib.hid (show keepE L rs ld = x ∧ keepV L rs ld = [] by unfold keepE keepV; rw [if_neg he, if_neg he]; exact ⟨hx, rfl⟩)
    have Hx := Lib.hid hx
    clear he hx hs
    go_enter Try.func37, Try.ntmps37
    go_wp2_with fail
    refine (refYard_any L A rs.length c rs _ HK0.out.sl).mono ?_
    rintro e w4 ⟨rfl, hb⟩
    have HK1 := Lib.hid (HK0.out.later hb)
    clear hb HK0 c0 c1 c2
    obtain ⟨c0, c1, c2⟩ := HK1.out.cells
    rw [Hx.out]
    go_wp2_with fail
    refine (refYard_any L A rs.length c rs _ HK1.out.sl).mono ?_
    rintro e w5 ⟨rfl, hb⟩
    have HK2 := Lib.hid (HK1.out.later hb)
    clear hb HK1 c0 c1 c2
    obtain ⟨c0, c1, c2⟩ := HK2.out.cells
    rw [Hx.out]
    go_wp2
    go_ret2
    refine ⟨none, 0, 0, by rw [HE.out.1]; rfl, HK2.out.bel, ?_⟩
    rw [HE.out.2]
    exact Sl.nil_
set_option maxRecDepth 100000 in
set_option maxHeartbeats 4000000 in
theorem keeps_law (L : Int) (A : Option Addr) (n c : Nat) (rs : List Rg) (ld : Int) (w : World) (hs : Sl 2 encR w w.heap.size A n c rs) :
    Calls Try.prog 6 #[.agg #[.int .i64 L, .slice A n c], .int .i64 ld] w fun e w' => e = .returned (.bool true) ∧ Below w.heap.size w w' := by
  obtain rfl := hs.len
  have hB := balloc (brefl w) (.cells #[.int .i64 L, .slice A rs.length c] 24)
  have HK0 := Lib.hid (show LW w (w.alloc (.cells #[.int .i64 L, .slice A rs.length c] 24)) w.heap.size L A rs.length c rs from ⟨hB, Blk.new w _ _, hs.later hB⟩)
  clear hB hs
  have hgr := Lib.hid (fun W => great_any L A rs.length c W)
  obtain ⟨c0, c1, c2⟩ := HK0.out.cells
  cases hg : grB rs.length with
  | true =>
    rw [hg] at hgr
    go_enter Try.func6, Try.ntmps6
    go_wp2_with fail
    refine (hgr.out _).mono ?_
    rintro e w6 ⟨rfl, hb⟩
    have HK1 := Lib.hid (HK0.out.later hb)
    clear hb HK0 c0 c1 c2
    obtain ⟨c0, c1, c2⟩ := HK1.out.cells
    go_wp2_with fail
    refine (works_any _).mono ?_
    rintro e we ⟨rfl, hbe⟩
    have HBE := Lib.hid (Below.later HK1.out.bel hbe)
    clear hbe
    go_wp2
    go_ret
    exact ⟨rfl, HBE.out⟩
  | false =>
    rw [hg] at hgr
    obtain ⟨x, hx⟩ : ∃ x, keepE L rs ld = x := ⟨_, rfl⟩
    obtain ⟨ys, hys⟩ : ∃ x, keepV L rs ld = x := ⟨_, rfl⟩
    have X1 := Lib.hid hx
    have X2 := Lib.hid hys
    clear hg hx hys
    go_enter Try.func6, Try.ntmps6
    go_wp2_with fail
    refine (hgr.out _).mono ?_
    rintro e w7 ⟨rfl, hb⟩
    have HK1 := Lib.hid (HK0.out.later hb)
    clear hb HK0 c0 c1 c2
    obtain ⟨c0, c1, c2⟩ := HK1.out.cells
    go_wp2_with fail
    refine (keep_any L A rs.length c rs ld _ HK1.out.sl).mono ?_
    rintro e w8 ⟨v1, rfl, hb, ho⟩
    have HK2 := Lib.hid (HK1.out.later hb)
    clear hb HK1 c0 c1 c2
    obtain ⟨c0, c1, c2⟩ := HK2.out.cells
    rw [X1.out]
    rw [X2.out] at ho
    obtain ⟨G1, d1, rfl, hsl⟩ := listV_sl ho
    have HA2 := Lib.hid hsl
    clear ho hsl
    go_wp2_with fail
    refine (refKeep_any L A rs.length c rs ld _ HK2.out.sl).mono ?_
    rintro e w9 ⟨G2, m2, d2, rfl, hb, hsl⟩
    have HK3 := Lib.hid (HK2.out.later hb)
    have HA3 := Lib.hid (HA2.out.later hb)
    clear hb HK2 HA2 c0 c1 c2
    obtain ⟨c0, c1, c2⟩ := HK3.out.cells
    rw [X1.out]
    rw [X2.out] at hsl
    have HB3 := Lib.hid hsl
    clear hsl
    go_wp2_with fail
    refine (intsEq_any _ _ _ _ _ _ _ _ _ HA3.out HB3.out).mono ?_
    rintro e w10 ⟨rfl, hb⟩
    have HK4 := Lib.hid (HK3.out.later hb)
    have HA4 := Lib.hid (HA3.out.later hb)
    have HB4 := Lib.hid (HB3.out.later hb)
    clear hb HK3 HA3 HB3 c0 c1 c2
    obtain ⟨c0, c1, c2⟩ := HK4.out.cells
    rw [show decide (castL ys = castL ys) = true by simp]
    go_wp2_with fail
    refine (works_any _).mono ?_
    rintro e we ⟨rfl, hbe⟩
    have HBE := Lib.hid (Below.later HK4.out.bel hbe)
    clear hbe
    go_wp2
    go_ret
    exact ⟨rfl, HBE.out⟩
end Go.Proofs.Ytbbdlebmagknmaa
