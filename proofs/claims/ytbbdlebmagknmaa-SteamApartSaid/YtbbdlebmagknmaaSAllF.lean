/- What the laws of chapter 3 share: too many logs; a law's standing memory. · What the laws of valid yards share: fine, and the law's fewest. -/
import Derived.Test.YtbbdlebmagknmaaSWorks
namespace Go.Proofs.Ytbbdlebmagknmaa
open Go.RowKit Go.Shelf

/-- Too many logs for a statement. -/
def grB (n : Nat) : Bool := decide ((16 : Int) < (n : Int))
theorem great_any (L : Int) (A : Option Addr) (n c : Nat) (w : World) :
    Calls Try.prog 17 #[.agg #[.int .i64 L, .slice A n c]] w fun e w' => e = .returned (.bool (grB n)) ∧ Below w.heap.size w w' := by
  unfold grB
  go_enter Try.func17, Try.ntmps17
  go_wp2
  go_ret
  exact ⟨rfl, balloc (brefl w) _⟩

/-- A law's standing memory: the yard's box and its logs. -/
structure LW (w W : World) (B0 : Nat) (L : Int) (A : Option Addr) (n c : Nat) (rs : List Rg) : Prop where
  bel : Below w.heap.size w W
  b0 : Blk W B0 24 #[.int .i64 L, .slice A n c]
  sl : Sl 2 encR W W.heap.size A n c rs
section
variable {w W W' : World} {B0 : Nat} {L : Int} {A : Option Addr} {n c : Nat} {rs : List Rg}
theorem LW.later (h : LW w W B0 L A n c rs) (hb : Below W.heap.size W W') : LW w W' B0 L A n c rs := ⟨Below.later h.bel hb, h.b0.later hb, h.sl.later hb⟩
theorem LW.cells (h : LW w W B0 L A n c rs) : W.cell? ⟨B0, 0, none⟩ = some (.int .i64 L) ∧ W.cell? ⟨B0, 1, none⟩ = some (.slice A n c) ∧ B0 < W.heap.size := ⟨h.b0.cell 0, h.b0.cell 1, h.b0.lt⟩
end
end Go.Proofs.Ytbbdlebmagknmaa

namespace Go.Proofs.Ytbbdlebmagknmaa
open Go.RowKit Go.Shelf

theorem fine_bad (L : Int) (A : Option Addr) (n c : Nat) (rs : List Rg) (w : World) (hs : Sl 2 encR w w.heap.size A n c rs) (he : yardE L rs ≠ 0) :
    Calls Try.prog 39 #[.agg #[.int .i64 L, .slice A n c]] w fun e w' => e = .returned (.bool false) ∧ Below w.heap.size w w' := by
  have HK := Lib.hid (show LW w (w.alloc (.cells #[.int .i64 L, .slice A n c] 24)) w.heap.size L A n c rs from ⟨balloc (brefl w) _, Blk.new w _ _, hs.later (balloc (brefl w) _)⟩)
  have hgr := Lib.hid (fun W => great_any L A n c W)
  obtain ⟨x, hx⟩ : ∃ x, yardE L rs = x := ⟨_, rfl⟩
  have Hx := Lib.hid hx
  rw [hx] at he
  clear hs hx
  cases hg : grB n with
  | true =>
    rw [hg] at hgr
    go_enter Try.func39, Try.ntmps39
    go_wp2_with fail
    refine (hgr.out _).mono ?_
    rintro e w1 ⟨rfl, hb1⟩
    have HE := Lib.hid (Below.later HK.out.bel hb1)
    clear hb1
    go_wp2
    go_ret
    exact ⟨rfl, HE.out⟩
  | false =>
    rw [hg] at hgr
    go_enter Try.func39, Try.ntmps39
    go_wp2_with fail
    refine (hgr.out _).mono ?_
    rintro e w1 ⟨rfl, hb1⟩
    have HK1 := Lib.hid (HK.out.later hb1)
    obtain ⟨c0, c1, c2⟩ := HK1.out.cells
    clear hb1 HK
    go_wp2_with fail
    refine (refYard_any L A n c rs _ HK1.out.sl).mono ?_
    rintro e w2 ⟨rfl, hb2⟩
    rw [Hx.out]
    have HE := Lib.hid (Below.later HK1.out.bel hb2)
    have hd : (x == 0) = false := by simpa using he
    have hd2 : decide (x = 0) = false := by simpa using he
    clear hb2 HK1 c0 c1 c2
    go_wp2
    go_ret
    exact ⟨ret_bool (by simp), HE.out⟩
theorem fine_ok (L : Int) (A : Option Addr) (n c : Nat) (rs : List Rg) (w : World) (hs : Sl 2 encR w w.heap.size A n c rs) (he : yardE L rs = 0) :
    Calls Try.prog 39 #[.agg #[.int .i64 L, .slice A n c]] w fun e w' => e = .returned (.bool true) ∧ Below w.heap.size w w' := by
  have HK := Lib.hid (show LW w (w.alloc (.cells #[.int .i64 L, .slice A n c] 24)) w.heap.size L A n c rs from ⟨balloc (brefl w) _, Blk.new w _ _, hs.later (balloc (brefl w) _)⟩)
  have hgr := Lib.hid (fun W => great_any L A n c W)
  have hg : grB n = false := by
    have h1 := (yard_ok he).2.1
    have h2 := hs.len
    unfold grB
    simp
    omega
  have Hx := Lib.hid he
  rw [hg] at hgr
  clear hs he hg
  go_enter Try.func39, Try.ntmps39
  go_wp2_with fail
  refine (hgr.out _).mono ?_
  rintro e w1 ⟨rfl, hb1⟩
  have HK1 := Lib.hid (HK.out.later hb1)
  obtain ⟨c0, c1, c2⟩ := HK1.out.cells
  clear hb1 HK
  go_wp2_with fail
  refine (refYard_any L A n c rs _ HK1.out.sl).mono ?_
  rintro e w2 ⟨rfl, hb2⟩
  rw [Hx.out]
  have HE := Lib.hid (Below.later HK1.out.bel hb2)
  clear hb2 HK1 c0 c1 c2
  go_wp2
  go_ret
  exact ⟨rfl, HE.out⟩
theorem fewV_of {L : Nat} {rs : List Rg} (he : yardE (L : Int) rs = 0) : fewV (L : Int) rs = LA rs L 101 := by
  unfold fewV
  simp [he]
set_option maxRecDepth 100000 in
set_option maxHeartbeats 4000000 in
/-- **The law's fewest**: the fewest loads, right hours that have as many, and: all is well. -/
theorem fewestL_any (L : Nat) (A : Option Addr) (n c : Nat) (rs : List Rg) (w : World) (hs : Sl 2 encR w w.heap.size A n c rs) (he : yardE (L : Int) rs = 0) :
    Calls Try.prog 40 #[.agg #[.int .i64 (L : Int), .slice A n c]] w fun e w' => ∃ g hh, e = .returned (.tuple #[.int .i64 (LA rs L 101), .slice (some ⟨g, 0, none⟩) n n, .bool true]) ∧ Below w.heap.size w w' ∧ Sl 1 encI w' w'.heap.size (some ⟨g, 0, none⟩) n n hh ∧ hoursE (L : Int) rs hh = 0 ∧ hoursV (L : Int) rs hh = LA rs L 101 := by
  obtain rfl := hs.len
  have HK := Lib.hid (show LW w (w.alloc (.cells #[.int .i64 (L : Int), .slice A rs.length c] 24)) w.heap.size (L : Int) A rs.length c rs from ⟨balloc (brefl w) _, Blk.new w _ _, hs.later (balloc (brefl w) _)⟩)
  have Hy := Lib.hid he
  obtain ⟨hL, hr⟩ := yard_ok he
  have Hr := Lib.hid hr
  have hL' : 1 ≤ L ∧ L ≤ 10 := by omega
  obtain ⟨v, hv⟩ : ∃ v, LA rs L 101 = v := ⟨_, rfl⟩
  have Hv := Lib.hid hv
  have hfw := Lib.hid (show fewV (L : Int) rs = v by rw [fewV_of he]; exact hv)
  have hn16 := hr.1
  rw [hv]
  clear hs he hr hv
  go_enter Try.func40, Try.ntmps40
  obtain ⟨c0, c1, c2⟩ := HK.out.cells
  go_wp2_with fail
  clear c0 c1 c2
  refine (fewest_any (L : Int) A rs.length c rs _ HK.out.sl).mono ?_
  rintro e w1 ⟨rfl, hb1⟩
  rw [hfw.out, Hy.out]
  have HK1 := Lib.hid (HK.out.later hb1)
  clear hb1 HK
  obtain ⟨c0, c1, c2⟩ := HK1.out.cells
  go_wp2_with fail
  clear c0 c1 c2
  refine (hours_ok L A c rs _ HK1.out.sl Hy.out).mono ?_
  rintro e w2 ⟨g, l, ts, F, rfl, hb2, hok, hsl⟩
  have HK2 := Lib.hid (HK1.out.later hb2)
  have h1 := fill_hours hok Hr.out hL'
  rw [Hv.out] at h1
  obtain ⟨hh, hhe⟩ : ∃ hh, (List.range rs.length).map F = hh := ⟨_, rfl⟩
  rw [hhe] at h1 hsl
  have H1 := Lib.hid h1
  have HS2 := Lib.hid hsl
  clear hb2 HK1 hok hsl h1 hhe
  obtain ⟨c0, c1, c2⟩ := HK2.out.cells
  go_wp2_with fail
  clear c0 c1 c2
  refine (proofC_ok L A c rs _ HK2.out.sl Hy.out).mono ?_
  rintro e w3 ⟨g2, ws, rfl, hb3, hwsl, hch⟩
  have HK3 := Lib.hid (HK2.out.later hb3)
  have HS3 := Lib.hid (HS2.out.later hb3)
  have h2 := chain_proof Hr.out hL' hch
  rw [Hv.out] at h2
  have hw10 := h2.1.1
  have hwd : ¬ ((10 : Int) < (ws.length : Int)) := by omega
  have H2 := Lib.hid h2
  have HW3 := Lib.hid hwsl
  clear hb3 HK2 HS2 hch hwsl h2
  obtain ⟨c0, c1, c2⟩ := HK3.out.cells
  go_wp2_with fail
  clear c0 c1 c2
  refine (checkHours_any (L : Int) A rs.length c rs _ _ _ hh _ HK3.out.sl HS3.out).mono ?_
  rintro e w4 ⟨rfl, hb4⟩
  rw [H1.out.1, H1.out.2]
  have HK4 := Lib.hid (HK3.out.later hb4)
  have HS4 := Lib.hid (HS3.out.later hb4)
  have HW4 := Lib.hid (HW3.out.later hb4)
  clear hb4 HK3 HS3 HW3
  obtain ⟨c0, c1, c2⟩ := HK4.out.cells
  go_wp2_with fail
  clear c0 c1 c2
  refine (refHours_any (L : Int) A rs.length c rs _ _ _ hh _ HK4.out.sl HS4.out).mono ?_
  rintro e w5 ⟨rfl, hb5⟩
  rw [H1.out.1, H1.out.2]
  have HK5 := Lib.hid (HK4.out.later hb5)
  have HS5 := Lib.hid (HS4.out.later hb5)
  have HW5 := Lib.hid (HW4.out.later hb5)
  clear hb5 HK4 HS4 HW4
  obtain ⟨c0, c1, c2⟩ := HK5.out.cells
  go_wp2_with fail
  clear c0 c1 c2
  refine (checkProof_any (L : Int) A rs.length c rs _ _ _ ws _ HK5.out.sl HW5.out).mono ?_
  rintro e w6 ⟨rfl, hb6⟩
  rw [H2.out.1.2, H2.out.2]
  have HK6 := Lib.hid (HK5.out.later hb6)
  have HS6 := Lib.hid (HS5.out.later hb6)
  have HW6 := Lib.hid (HW5.out.later hb6)
  clear hb6 HK5 HS5 HW5
  obtain ⟨c0, c1, c2⟩ := HK6.out.cells
  go_wp2_with fail
  clear c0 c1 c2
  refine (refProof_any (L : Int) A rs.length c rs _ _ _ ws _ HK6.out.sl HW6.out).mono ?_
  rintro e w7 ⟨rfl, hb7⟩
  rw [H2.out.1.2, H2.out.2]
  have HK7 := Lib.hid (HK6.out.later hb7)
  have HS7 := Lib.hid (HS6.out.later hb7)
  clear hb7 HK6 HS6 HW6
  go_wp2
  exact bodyPost_ret (v := .tuple #[.int .i64 v, .slice (some ⟨g, 0, none⟩) rs.length rs.length, .bool true]) (by simp [results, Try.results40, go_sem]) rfl ⟨g, hh, rfl, HK7.out.bel, HS7.out, H1.out.1, H1.out.2⟩
end Go.Proofs.Ytbbdlebmagknmaa
