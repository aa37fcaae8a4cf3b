/- The document's answers: when a place is parted, what a fault costs; the walk of ClipParts. -/
import Derived.Test.YtjmphmnimnbgkaaPartedEq
import Derived.Test.YtjmphmnimnbgkaaPiece
import Derived.Test.YtjmphmnimnbgkaaLawBests
import Derived.Test.YtjmphmnimnbgkaaCost
import Derived.BigRegion
import Derived.Test.YtjmphmnimnbgkaaParted
namespace Go.Proofs.Ytjmphmnimnbgkaa
open Go.RowKit Go.Shelf

set_option maxRecDepth 100000 in
set_option maxHeartbeats 2000000 in
theorem partedOf_any (L : Nat) (FA : Option Addr) (fn fc : Nat) (fs : List Int) (KA : Option Addr) (kc : Nat) (ks : List Kd) (p : Nat) (w : World) (hfs : Sl 1 encI w w.heap.size FA fn fc fs) (hks : Sl 3 encK w w.heap.size KA ks.length kc ks) (hl1 : 1 ≤ L) (hl2 : L ≤ 24) (hko : KOk ks) (hfn : fn ≤ 40) (hp : p ≤ L) :
    Calls Try.prog 71 #[.agg #[.int .i64 L, .slice FA fn fc], .slice KA ks.length kc, .int .i64 p] w fun e w' => e = .returned (.int .i64 (partedP L (Fst fs L) ks (aheadAt L (Fst fs L) ks L) (behindAt L (Fst fs L) ks L) p).1) ∧ Below w.heap.size w w' := by
  have hR := RW.new (L := L) hfs hks
  obtain ⟨W, hW⟩ : ∃ W, w.alloc (.cells #[.int .i64 L, .slice FA fn fc] 24) = W := ⟨_, rfl⟩
  rw [hW] at hR
  have HR := Lib.hid hR
  have Hk := Lib.hid hko
  have c0 := hR.b0.cell 0
  have c1 := hR.b0.cell 1
  have c2 := hR.b0.lt
  by_cases hend : p = 0 ∨ p = L
  · have HE := Lib.hid (parted_end (F := Fst fs L) hko hend)
    have he : ((p : Int) == 0) = true ∨ ((p : Int) == 0) = false ∧ ((p : Int) == (L : Int)) = true := by
      rcases hend with h | h
      · left; simp [h]
      · by_cases h0 : p = 0
        · left; simp [h0]
        · right; exact ⟨by simp; omega, by simp [h]⟩
    clear hfs hks hR hko hend
    rcases he with h | ⟨h1, h2⟩
    · go_enter Try.func71, Try.ntmps71
      go_wp2
      go_ret
      exact ⟨ret_int HE.out.symm, HR.out.bel⟩
    · go_enter Try.func71, Try.ntmps71
      go_wp2
      go_ret
      exact ⟨ret_int HE.out.symm, HR.out.bel⟩
  · have h1 : ((p : Int) == 0) = false := by simp; omega
    have h2 : ((p : Int) == (L : Int)) = false := by simp; omega
    obtain ⟨hp1, hp2⟩ : 1 ≤ p ∧ p < L := by omega
    obtain ⟨hS, hM⟩ := parted_same (L := L) (p := p) (F := Fst fs L) (F1 := Fst (pieceF fs (0 : Nat) p) p) (F2 := Fst (pieceF fs p L) (L - p)) hko hp (piece_can1 hko hp) (piece_can2 hko hp)
    obtain ⟨res, hres⟩ : ∃ res, (partedP L (Fst fs L) ks (aheadAt L (Fst fs L) ks L) (behindAt L (Fst fs L) ks L) p).1 = res := ⟨_, rfl⟩
    rw [hres] at hS ⊢
    have hB1 := behindAt_bd (L := p) (F := Fst (pieceF fs (0 : Nat) p) p) hko p (Nat.le_refl _) 0
    have hB2 := behindAt_bd (L := L - p) (F := Fst (pieceF fs p L) (L - p)) hko (L - p) (Nat.le_refl _) 0
    have hM0 := refAt_M (L := L) (F := Fst fs L) hko (Nat.le_refl _) 0 (by omega) (Nat.zero_le _)
    have hM1 := refAt_M (L := p) (F := Fst (pieceF fs (0 : Nat) p) p) hko (Nat.le_refl _) 0 (by omega) (Nat.zero_le _)
    have hM2 := refAt_M (L := L - p) (F := Fst (pieceF fs p L) (L - p)) hko (Nat.le_refl _) 0 (by omega) (Nat.zero_le _)
    have h24 : (6 : Int) ^ 24 = 4738381338321616896 := by decide
    have hm6 := pow6_mono (show L - 0 ≤ 24 from by omega)
    rw [h24] at hm6
    have hMM := Int.mul_nonneg hM1.1 hM2.1
    have hM0' : (refAt L (Fst fs L) ks L).2 0 ≤ 4738381338321616896 := by omega
    obtain ⟨vw, hvw⟩ : ∃ vw, behindAt L (Fst fs L) ks L 0 = vw := ⟨_, rfl⟩
    obtain ⟨m, hm⟩ : ∃ m, (refAt L (Fst fs L) ks L).2 0 = m := ⟨_, rfl⟩
    obtain ⟨vw1, hvw1⟩ : ∃ vw1, behindAt p (Fst (pieceF fs (0 : Nat) p) p) ks p 0 = vw1 := ⟨_, rfl⟩
    obtain ⟨m1, hm1⟩ : ∃ m1, (refAt p (Fst (pieceF fs (0 : Nat) p) p) ks p).2 0 = m1 := ⟨_, rfl⟩
    obtain ⟨vw2, hvw2⟩ : ∃ vw2, behindAt (L - p) (Fst (pieceF fs p L) (L - p)) ks (L - p) 0 = vw2 := ⟨_, rfl⟩
    obtain ⟨m2, hm2⟩ : ∃ m2, (refAt (L - p) (Fst (pieceF fs p L) (L - p)) ks (L - p)).2 0 = m2 := ⟨_, rfl⟩
    rw [hm1, hm2] at hMM
    rw [hm] at hM0'
    rw [hvw, hm, hvw1, hm1, hvw2, hm2] at hS hM
    rw [hvw1] at hB1
    rw [hvw2] at hB2
    have hb1 : 0 ≤ vw1 ∧ vw1 ≤ 24000 := by omega
    have hb2 : 0 ≤ vw2 ∧ vw2 ≤ 24000 := by omega
    have HS := Lib.hid hS
    have HM := Lib.hid hM
    have HMM := Lib.hid hMM
    have HM0 := Lib.hid hM0'
    have Hb1 := Lib.hid hb1
    have Hb2 := Lib.hid hb2
    have Hvw := Lib.hid hvw
    have Hvw1 := Lib.hid hvw1
    have Hvw2 := Lib.hid hvw2
    have Hm := Lib.hid hm
    have Hm1 := Lib.hid hm1
    have Hm2 := Lib.hid hm2
    clear hfs hks hR hko hend hS hM hB1 hB2 hM0 hM1 hM2 h24 hm6 hres hMM hM0' hb1 hb2 hvw hvw1 hvw2 hm hm1 hm2
    go_enter Try.func71, Try.ntmps71
    go_wp2_with fail
    refine (behind_any L FA fn fc fs KA kc ks _ HR.out.fsl HR.out.ksl hl1 hl2 Hk.out).mono ?_
    rintro e w1 ⟨a1, a2, rfl, hS1⟩
    have HS1 := Lib.hid hS1
    have hR1 := HR.out.later hS1.bel
    have HR1 := Lib.hid hR1
    have c0 := hR1.b0.cell 0
    have c1 := hR1.b0.cell 1
    have c2 := hR1.b0.lt
    clear hS1 hR1
    go_wp2_with fail
    refine (piece_any L FA fn fc fs 0 p _ HR1.out.fsl hfn (Nat.zero_le _) (by omega)).mono ?_
    rintro e w2 ⟨G, gn, gc, rfl, hb2, hG2⟩
    rw [show ((p : Int) - ((0 : Nat) : Int)) = (p : Int) by omega]
    have HR2 := Lib.hid (HR1.out.later hb2)
    have HG2 := Lib.hid hG2
    have HB2 := Lib.hid hb2
    clear hb2 hG2
    go_wp2_with fail
    refine (behind_any p G gn gc _ KA kc ks _ HG2.out HR2.out.ksl hp1 (by omega) Hk.out).mono ?_
    rintro e w3 ⟨b1, b2, rfl, hS3⟩
    have HS3 := Lib.hid hS3
    have hR3 := HR2.out.later hS3.bel
    have HS1' := Lib.hid ((HS1.out.later HB2.out).later hS3.bel)
    have HR3 := Lib.hid hR3
    clear c0 c1 c2
    have c0 := hR3.b0.cell 0
    have c1 := hR3.b0.cell 1
    have c2 := hR3.b0.lt
    clear hS3 hR3 HR1 HR2 HS1 HB2 HG2
    go_wp2_with fail
    refine (piece_any L FA fn fc fs p L _ HR3.out.fsl hfn hp hl2).mono ?_
    rintro e w4 ⟨G', gn', gc', rfl, hb4, hG4⟩
    rw [show ((L : Int) - (p : Int)) = ((L - p : Nat) : Int) by omega]
    have HR4 := Lib.hid (HR3.out.later hb4)
    have HG4 := Lib.hid hG4
    have HS14 := Lib.hid (HS1'.out.later hb4)
    have HS34 := Lib.hid (HS3.out.later hb4)
    clear hb4 hG4 HR3 HS1' HS3 c0 c1 c2
    go_wp2_with fail
    refine (behind_any (L - p) G' gn' gc' _ KA kc ks _ HG4.out HR4.out.ksl (by omega) (by omega) Hk.out).mono ?_
    rintro e w5 ⟨d1, d2, rfl, hS5⟩
    have hS1 := HS14.out.later hS5.bel
    have hS3 := HS34.out.later hS5.bel
    have HB := Lib.hid (HR4.out.later hS5.bel).bel
    have n1 := hS1.num1 (j := 0) (by omega)
    have n2 := hS1.num2 (j := 0) (by omega)
    have n3 := hS3.num1 (j := 0) (by omega)
    have n4 := hS3.num2 (j := 0) (by omega)
    have n5 := hS5.num1 (j := 0) (by omega)
    have n6 := hS5.num2 (j := 0) (by omega)
    rw [refAt_A Hk.out, Hvw.out] at n1
    rw [refAt_A Hk.out, Hvw1.out] at n3
    rw [refAt_A Hk.out, Hvw2.out] at n5
    rw [Hm.out] at n2
    rw [Hm1.out] at n4
    rw [Hm2.out] at n6
    have y1 := hS1.b1.lt
    have y2 := hS1.b2.lt
    have y3 := hS3.b1.lt
    have y4 := hS3.b2.lt
    have y5 := hS5.b1.lt
    have y6 := hS5.b2.lt
    clear hS1 hS3 hS5 HS14 HS34 HG4 HR4
    have jw : IntKind.i64.wrap (vw1 + vw2) = vw1 + vw2 := by have h1 := Hb1.out; have h2 := Hb2.out; rw [IntKind.wrap_i64]; omega
    by_cases q1 : vw1 + vw2 < vw
    · have e1 : decide (vw1 + vw2 < vw) = true := by simpa using q1
      have HE := Lib.hid (show res = 0 by rw [← HS.out]; unfold partsP; rw [if_pos q1])
      clear q1
      go_wp2_with fail
      go_region
      go_wp2
      go_ret
      exact ⟨ret_int HE.out.symm, HB.out.drew⟩
    · have e1 : decide (vw1 + vw2 < vw) = false := by simpa using q1
      have jm : IntKind.i64.wrap (m1 * m2) = m1 * m2 := by
        have h1 := HM.out (by omega)
        have h2 := HM0.out
        have h3 := HMM.out
        generalize m1 * m2 = mm at *
        rw [IntKind.wrap_i64]; omega
      by_cases q2 : m1 * m2 < m
      · have e2 : decide (m1 * m2 < m) = true := by simpa using q2
        have HE := Lib.hid (show res = 1 by rw [← HS.out]; unfold partsP; rw [if_neg q1, if_pos q2])
        clear q1 q2
        go_wp2_with fail
        go_region
        go_wp2_with fail
        go_region
        go_wp2
        go_ret
        exact ⟨ret_int HE.out.symm, HB.out.drew.drew⟩
      · have e2 : decide (m1 * m2 < m) = false := by simpa using q2
        have HE := Lib.hid (show res = 2 by rw [← HS.out]; unfold partsP; rw [if_neg q1, if_neg q2])
        clear q1 q2
        go_wp2_with fail
        go_region
        go_wp2_with fail
        go_region
        go_wp2
        go_ret
        exact ⟨ret_int HE.out.symm, HB.out.drew.drew⟩

set_option maxHeartbeats 400000 in
theorem refParted_bad (L : Int) (FA : Option Addr) (fn fc : Nat) (fs : List Int) (KA : Option Addr) (kc : Nat) (ks : List Kd) (p : Int) (w : World) (hfs : Sl 1 encI w w.heap.size FA fn fc fs) (hks : Sl 3 encK w w.heap.size KA ks.length kc ks) (hne : rkE L fs ks ≠ 0) :
    Calls Try.prog 35 #[.agg #[.int .i64 L, .slice FA fn fc], .slice KA ks.length kc, .int .i64 p] w fun e w' => e = .returned (.tuple #[.int .i64 0, .int .i64 (rkE L fs ks)]) ∧ Below w.heap.size w w' := by
  have hB0 := balloc (brefl w) (.cells #[.int .i64 L, .slice FA fn fc] 24)
  have hbo := Lib.hid (fun W hb => both_any L FA fn fc fs KA kc ks W (hfs.later (w' := W) hb) (hks.later hb))
  have hb0 := Blk.new w 24 #[.int .i64 L, .slice FA fn fc]
  obtain ⟨W, hW⟩ : ∃ W, w.alloc (.cells #[.int .i64 L, .slice FA fn fc] 24) = W := ⟨_, rfl⟩
  rw [hW] at hB0 hb0
  have HB0 := Lib.hid hB0
  have Hcell := Lib.hid (show ∀ W', Below W.heap.size W W' → W'.cell? ⟨w.heap.size, 0, none⟩ = some (.int .i64 L) ∧ W'.cell? ⟨w.heap.size, 1, none⟩ = some (.slice FA fn fc) ∧ w.heap.size < W'.heap.size from fun W' hb => ⟨(hb0.later hb).cell 0, (hb0.later hb).cell 1, (hb0.later hb).lt⟩)
  clear hfs hks hB0 hb0
  obtain ⟨c0, c1, c2⟩ := Hcell.out W (brefl W)
  generalize rkE L fs ks = re at *
  have hn3 : (re != 0) = true := by simpa using hne
  clear hne
  go_enter Try.func35, Try.ntmps35
  go_wp2_with fail
  clear hW
  refine (hbo.out _ HB0.out).mono ?_
  rintro e w1 ⟨rfl, hb1⟩
  obtain ⟨d0, d1, d2⟩ := Hcell.out w1 hb1
  have HB1 := Lib.hid (Below.later HB0.out hb1)
  clear hb1
  go_wp2_with fail
  refine (hbo.out _ HB1.out).mono ?_
  rintro e w2 ⟨rfl, hb2⟩
  have HB2 := Lib.hid (Below.later HB1.out hb2)
  clear hb2
  go_wp2
  go_ret2
  exact ⟨rfl, HB2.out⟩
set_option maxHeartbeats 400000 in
theorem refCost_bad (L : Int) (FA : Option Addr) (fn fc : Nat) (fs : List Int) (KA : Option Addr) (kc : Nat) (ks : List Kd) (p : Int) (w : World) (hfs : Sl 1 encI w w.heap.size FA fn fc fs) (hks : Sl 3 encK w w.heap.size KA ks.length kc ks) (hne : rkE L fs ks ≠ 0) :
    Calls Try.prog 37 #[.agg #[.int .i64 L, .slice FA fn fc], .slice KA ks.length kc, .int .i64 p] w fun e w' => e = .returned (.tuple #[.int .i64 0, .int .i64 (rkE L fs ks)]) ∧ Below w.heap.size w w' := by
  have hB0 := balloc (brefl w) (.cells #[.int .i64 L, .slice FA fn fc] 24)
  have hbo := Lib.hid (fun W hb => both_any L FA fn fc fs KA kc ks W (hfs.later (w' := W) hb) (hks.later hb))
  have hb0 := Blk.new w 24 #[.int .i64 L, .slice FA fn fc]
  obtain ⟨W, hW⟩ : ∃ W, w.alloc (.cells #[.int .i64 L, .slice FA fn fc] 24) = W := ⟨_, rfl⟩
  rw [hW] at hB0 hb0
  have HB0 := Lib.hid hB0
  have Hcell := Lib.hid (show ∀ W', Below W.heap.size W W' → W'.cell? ⟨w.heap.size, 0, none⟩ = some (.int .i64 L) ∧ W'.cell? ⟨w.heap.size, 1, none⟩ = some (.slice FA fn fc) ∧ w.heap.size < W'.heap.size from fun W' hb => ⟨(hb0.later hb).cell 0, (hb0.later hb).cell 1, (hb0.later hb).lt⟩)
  clear hfs hks hB0 hb0
  obtain ⟨c0, c1, c2⟩ := Hcell.out W (brefl W)
  generalize rkE L fs ks = re at *
  have hn3 : (re != 0) = true := by simpa using hne
  clear hne
  go_enter Try.func37, Try.ntmps37
  go_wp2_with fail
  clear hW
  refine (hbo.out _ HB0.out).mono ?_
  rintro e w1 ⟨rfl, hb1⟩
  obtain ⟨d0, d1, d2⟩ := Hcell.out w1 hb1
  have HB1 := Lib.hid (Below.later HB0.out hb1)
  clear hb1
  go_wp2_with fail
  refine (hbo.out _ HB1.out).mono ?_
  rintro e w2 ⟨rfl, hb2⟩
  have HB2 := Lib.hid (Below.later HB1.out hb2)
  clear hb2
  go_wp2
  go_ret2
  exact ⟨rfl, HB2.out⟩

section
variable (L : Nat) (FA : Option Addr) (fn fc : Nat) (fs : List Int) (KA : Option Addr) (kc : Nat) (ks : List Kd) (p : Int) (w : World) (hfs : Sl 1 encI w w.heap.size FA fn fc fs) (hks : Sl 3 encK w w.heap.size KA ks.length kc ks) (he : rkE L fs ks = 0) (hfn : fn ≤ 40)
include hfs hks he hfn
theorem refParted_ok : Calls Try.prog 35 #[.agg #[.int .i64 L, .slice FA fn fc], .slice KA ks.length kc, .int .i64 p] w fun e w' => e = .returned (.tuple #[.int .i64 (partedP L (Fst fs L) ks (aheadAt L (Fst fs L) ks L) (behindAt L (Fst fs L) ks L) p).1, .int .i64 (partedP L (Fst fs L) ks (aheadAt L (Fst fs L) ks L) (behindAt L (Fst fs L) ks L) p).2]) ∧ Below w.heap.size w w' := by
  obtain ⟨n, hn, hl1, hl2, hko⟩ := valid_nat he
  have hn := Int.ofNat.inj hn
  subst hn
  have hR := RW.new (L := L) hfs hks
  obtain ⟨W, hW⟩ : ∃ W, w.alloc (.cells #[.int .i64 L, .slice FA fn fc] 24) = W := ⟨_, rfl⟩
  rw [hW] at hR
  have hbo := Lib.hid (both_any L FA fn fc fs KA kc ks W hR.fsl hR.ksl)
  rw [he] at hbo
  have HR := Lib.hid hR
  have Hk := Lib.hid hko
  have c0 := hR.b0.cell 0
  have c1 := hR.b0.cell 1
  have c2 := hR.b0.lt
  obtain ⟨r, hr⟩ : ∃ r, partedP L (Fst fs L) ks (aheadAt L (Fst fs L) ks L) (behindAt L (Fst fs L) ks L) p = r := ⟨_, rfl⟩
  have HRe := Lib.hid hr
  rw [hr]
  clear hfs hks hR hko he hr
  cases hin : inR 0 (L : Int) p with
  | false =>
    have HE := Lib.hid (show r = (0, 2) by rw [← HRe.out]; unfold partedP; rw [if_pos hin])
    rcases (inR_no _ _ _).1 hin with h | h
    · have e1 : decide (p < 0) = true := by simpa using h
      clear hin h
      go_enter Try.func35, Try.ntmps35
      go_wp2_with fail
      clear hW
      refine hbo.out.mono ?_
      rintro e w1 ⟨rfl, hb1⟩
      have hR1 := HR.out.later hb1
      have c0 := hR1.b0.cell 0
      have c1 := hR1.b0.cell 1
      have c2 := hR1.b0.lt
      have HR1 := Lib.hid hR1
      clear hb1 HR hbo hR1
      go_wp2
      go_ret2
      exact ⟨by rw [HE.out]; rfl, HR1.out.bel⟩
    · have e1 : decide (p < 0) = false := by simp; omega
      have e2 : decide ((L : Int) < p) = true := by simpa using h
      clear hin h
      go_enter Try.func35, Try.ntmps35
      go_wp2_with fail
      clear hW
      refine hbo.out.mono ?_
      rintro e w1 ⟨rfl, hb1⟩
      have hR1 := HR.out.later hb1
      have c0 := hR1.b0.cell 0
      have c1 := hR1.b0.cell 1
      have c2 := hR1.b0.lt
      have HR1 := Lib.hid hR1
      clear hb1 HR hbo hR1
      go_wp2
      go_ret2
      exact ⟨by rw [HE.out]; rfl, HR1.out.bel⟩
  | true =>
    obtain ⟨h1, h2⟩ := (inR_iff _ _ _).1 hin
    obtain ⟨q, rfl⟩ : ∃ q : Nat, p = q := ⟨p.toNat, by omega⟩
    have e1 : decide ((q : Int) < 0) = false := by simp
    have e2 : decide ((L : Int) < (q : Int)) = false := by simp; omega
    have HE := Lib.hid (show r.2 = 0 by rw [← HRe.out]; unfold partedP; rw [hin, if_neg (show ¬ (true = false) by simp)]; split; rfl; split <;> rfl)
    have hqL : q ≤ L := by omega
    clear hin h1 h2
    go_enter Try.func35, Try.ntmps35
    go_wp2_with fail
    clear hW
    refine hbo.out.mono ?_
    rintro e w1 ⟨rfl, hb1⟩
    have hR1 := HR.out.later hb1
    have c0 := hR1.b0.cell 0
    have c1 := hR1.b0.cell 1
    have c2 := hR1.b0.lt
    have HR1 := Lib.hid hR1
    clear hb1 HR hbo hR1
    go_wp2_with fail
    refine (partedOf_any L FA fn fc fs KA kc ks q _ HR1.out.fsl HR1.out.ksl hl1 hl2 Hk.out hfn hqL).mono ?_
    rintro e w2 ⟨rfl, hb2⟩
    rw [HRe.out]
    have HB := Lib.hid (HR1.out.later hb2).bel
    clear hb2
    go_wp2
    go_ret2
    exact ⟨by rw [HE.out]; rfl, HB.out⟩
theorem refCost_ok : Calls Try.prog 37 #[.agg #[.int .i64 L, .slice FA fn fc], .slice KA ks.length kc, .int .i64 p] w fun e w' => e = .returned (.tuple #[.int .i64 (costP L fs ks p).1, .int .i64 (costP L fs ks p).2]) ∧ Below w.heap.size w w' := by
  obtain ⟨n, hn, hl1, hl2, hko⟩ := valid_nat he
  have hn := Int.ofNat.inj hn
  subst hn
  have hcl := hfs.len
  have hR := RW.new (L := L) hfs hks
  obtain ⟨W, hW⟩ : ∃ W, w.alloc (.cells #[.int .i64 L, .slice FA fn fc] 24) = W := ⟨_, rfl⟩
  rw [hW] at hR
  have hbo := Lib.hid (both_any L FA fn fc fs KA kc ks W hR.fsl hR.ksl)
  rw [he] at hbo
  have HR := Lib.hid hR
  have Hk := Lib.hid hko
  have c0 := hR.b0.cell 0
  have c1 := hR.b0.cell 1
  have c2 := hR.b0.lt
  obtain ⟨r, hr⟩ : ∃ r, costP L fs ks p = r := ⟨_, rfl⟩
  have HRe := Lib.hid hr
  rw [hr]
  clear hfs hks hR hko he hr
  cases hin : inR 0 ((fs.length : Int) - 1) p with
  | false =>
    have HE := Lib.hid (show r = (0, 2) by rw [← HRe.out]; unfold costP; rw [hin]; rfl)
    rcases (inR_no _ _ _).1 hin with h | h
    · have e1 : decide (p < 0) = true := by simpa using h
      clear hin h
      go_enter Try.func37, Try.ntmps37
      go_wp2_with fail
      clear hW
      refine hbo.out.mono ?_
      rintro e w1 ⟨rfl, hb1⟩
      have hR1 := HR.out.later hb1
      have c0 := hR1.b0.cell 0
      have c1 := hR1.b0.cell 1
      have c2 := hR1.b0.lt
      have HR1 := Lib.hid hR1
      clear hb1 HR hbo hR1
      go_wp2
      go_ret2
      exact ⟨by rw [HE.out]; rfl, HR1.out.bel⟩
    · have e1 : decide (p < 0) = false := by simp; omega
      have e2 : decide ((fn : Int) ≤ p) = true := by simp; omega
      clear hin h
      go_enter Try.func37, Try.ntmps37
      go_wp2_with fail
      clear hW
      refine hbo.out.mono ?_
      rintro e w1 ⟨rfl, hb1⟩
      have hR1 := HR.out.later hb1
      have c0 := hR1.b0.cell 0
      have c1 := hR1.b0.cell 1
      have c2 := hR1.b0.lt
      have HR1 := Lib.hid hR1
      clear hb1 HR hbo hR1
      go_wp2
      go_ret2
      exact ⟨by rw [HE.out]; rfl, HR1.out.bel⟩
  | true =>
    obtain ⟨h1, h2⟩ := (inR_iff _ _ _).1 hin
    obtain ⟨q, rfl⟩ : ∃ q : Nat, p = q := ⟨p.toNat, by omega⟩
    have e1 : decide ((q : Int) < 0) = false := by simp
    have e2 : decide ((fn : Int) ≤ (q : Int)) = false := by simp; omega
    have hqn : q < fn := by omega
    have hB1 := behindAt_bd (L := L) (F := Fst (fs.take q ++ fs.drop (q + 1)) L) Hk.out L (Nat.le_refl _) 0
    have hB2 := behindAt_bd (L := L) (F := Fst fs L) Hk.out L (Nat.le_refl _) 0
    obtain ⟨v1, hv1⟩ : ∃ v1, behindAt L (Fst (fs.take q ++ fs.drop (q + 1)) L) ks L 0 = v1 := ⟨_, rfl⟩
    obtain ⟨v2, hv2⟩ : ∃ v2, behindAt L (Fst fs L) ks L 0 = v2 := ⟨_, rfl⟩
    have HE := Lib.hid (show r = (v1 - v2, 0) by
      rw [← HRe.out]; unfold costP; rw [if_pos hin, Int.toNat_natCast]
      unfold lessF
      rw [ahead_behind Hk.out, ahead_behind Hk.out, hv1, hv2])
    rw [hv1] at hB1
    rw [hv2] at hB2
    have jw : IntKind.i64.wrap (v1 - v2) = v1 - v2 := by rw [IntKind.wrap_i64]; omega
    have Hv1 := Lib.hid hv1
    have Hv2 := Lib.hid hv2
    obtain ⟨xs, hxs⟩ : ∃ xs, fs.take q ++ fs.drop (q + 1) = xs := ⟨_, rfl⟩
    have Hxs := Lib.hid hxs
    clear hin h1 h2 hB1 hB2 hv1 hv2 hxs
    go_enter Try.func37, Try.ntmps37
    go_wp2_with fail
    clear hW
    refine hbo.out.mono ?_
    rintro e w1 ⟨rfl, hb1⟩
    have hR1 := HR.out.later hb1
    have c0 := hR1.b0.cell 0
    have c1 := hR1.b0.cell 1
    have c2 := hR1.b0.lt
    have HR1 := Lib.hid hR1
    clear hb1 HR hbo hR1
    go_wp2_with fail
    refine dag 11 (by kernel_rfl) (by kernel_rfl) (.is ?_ :: .is ?_ :: .like (IsRib L xs.length xs) :: .is ?_ :: .is ?_ :: .is ?_ :: .is ?_ :: .is ?_ :: .is ?_ :: .is ?_ :: .is ?_ :: []) rfl ?st ?ob
    case st => repeat (first | exact stab_nil | refine stab_is ?_ | refine stab_like IsRib.stab ?_)
    case ob =>
      intro env W' hG
      obtain ⟨hc, hf⟩ := bcell hG
      iterate 2 (refine obls_is ?_ ?_; unfold doesAt; go_simp; (try go_bits); (first | (refine ⟨brefl _, ?_⟩; rfl) | rfl); intro K hK; go_simp; refine hK _ ?_; clear hK K)
      refine obls_like (fun _ => ?_) ?_
      · unfold doesAt
        go_simp
        refine (without_any L FA fn fc fs q W' (HR1.out.later hG).fsl hfn hqn).mono ?_
        rintro e w2 ⟨G, n, c, rfl, hb2, hsl⟩
        rw [Hxs.out] at hsl
        have hl := hsl.len
        exact ⟨_, rfl, hb2, G, c, by rw [hl], by rw [hl]; exact hsl⟩
      intro K hK
      go_simp
      refine hK _ ?_
      clear hK K
      (refine obls_is ?_ ?_; unfold doesAt; go_simp; (try go_bits); (first | (refine ⟨brefl _, ?_⟩; rfl) | rfl); intro K hK; go_simp; refine hK _ ?_; clear hK K)
      refine obls_isL (fun hl => ?_) ?_
      · obtain ⟨G, c, hE, hsl⟩ : IsRib L xs.length xs (env 2) W' := hl ⟨2, .data⟩ (by simp) rfl
        have hw := worthOf_any L G xs.length c xs KA kc ks W' hsl (HR1.out.later hG).ksl hl1 hl2 Hk.out
        clear hsl
        unfold doesAt
        go_simp
        refine hw.mono ?_
        rintro e w3 ⟨rfl, hb3⟩
        refine ⟨?_, hb3⟩
        rw [← Hxs.out, Hv1.out]
      intro K hK
      go_simp
      refine hK _ ?_
      clear hK K
      iterate 2 (refine obls_is ?_ ?_; unfold doesAt; go_simp; (try go_bits); (first | (refine ⟨brefl _, ?_⟩; rfl) | rfl); intro K hK; go_simp; refine hK _ ?_; clear hK K)
      refine obls_is ?_ ?_
      · unfold doesAt
        go_simp
        refine (worthOf_any L FA fn fc fs KA kc ks W' (HR1.out.later hG).fsl (HR1.out.later hG).ksl hl1 hl2 Hk.out).mono ?_
        rintro e w3 ⟨rfl, hb3⟩
        refine ⟨?_, hb3⟩
        rw [Hv2.out]
      intro K hK
      go_simp
      refine hK _ ?_
      clear hK K
      repeat (refine obls_is ?_ ?_; unfold doesAt; go_simp; (try go_bits); (first | (refine ⟨brefl _, ?_⟩; rfl) | rfl); intro K hK; go_simp; refine hK _ ?_; clear hK K)
      refine obls_nil (fun _ => ?_)
      have HB := Lib.hid (HR1.out.later hG).bel
      clear hc hf hG
      go_wp2
      go_ret2
      exact ⟨by rw [HE.out]; rfl, HB.out⟩
end

theorem valid_len {L : Nat} {fs : List Int} {ks : List Kd} (h : rkE (L : Int) fs ks = 0) : fs.length ≤ L := by
  have h0 : ribE (L : Int) fs = 0 := by
    unfold rkE at h
    split at h
    · assumption
    · exact absurd h ‹_›
  have hg := (ribE_zero h0).2
  have key : ∀ j, j < fs.length → (j : Int) ≤ fs.getD j 0 ∧ fs.getD j 0 < L := by
    intro j
    induction j with
    | zero =>
      intro hj
      have := hg 0 hj
      unfold gdB at this
      simp only [Bool.and_eq_true, decide_eq_true_eq] at this
      omega
    | succ j ih =>
      intro hj
      have h1 := hg (j + 1) hj
      have h2 := ih (by omega)
      unfold gdB at h1
      simp only [Bool.and_eq_true, Bool.or_eq_true, decide_eq_true_eq, Nat.add_sub_cancel] at h1
      omega
  by_cases h1 : fs.length = 0
  · omega
  · have := key (fs.length - 1) (by omega)
    omega
def partedA (L : Int) (fs : List Int) (ks : List Kd) (p : Int) : Int × Int := orE L fs ks fun n => partedP n (Fst fs n) ks (aheadAt n (Fst fs n) ks n) (behindAt n (Fst fs n) ks n) p
def costA (L : Int) (fs : List Int) (ks : List Kd) (f : Int) : Int × Int := orE L fs ks fun n => costP n fs ks f
section
variable (L : Int) (FA : Option Addr) (fn fc : Nat) (fs : List Int) (KA : Option Addr) (kc : Nat) (ks : List Kd) (p : Int) (w : World) (hfs : Sl 1 encI w w.heap.size FA fn fc fs) (hks : Sl 3 encK w w.heap.size KA ks.length kc ks)
include hfs hks
theorem parted_all : Calls Try.prog 34 #[.agg #[.int .i64 L, .slice FA fn fc], .slice KA ks.length kc, .int .i64 p] w fun e w' => e = .returned (.tuple #[.int .i64 (partedA L fs ks p).1, .int .i64 (partedA L fs ks p).2]) ∧ Below w.heap.size w w' := by
  unfold partedA
  by_cases h : rkE L fs ks = 0
  · obtain ⟨n, rfl, _⟩ := valid_nat h
    rw [orE_ok h]
    exact Parted_ok n FA fn fc fs KA kc ks p w hfs hks h
  · rw [orE_bad h]
    exact Parted_bad L FA fn fc fs KA kc ks p w hfs hks h
theorem refParted_all (hfn : fn ≤ 40) : Calls Try.prog 35 #[.agg #[.int .i64 L, .slice FA fn fc], .slice KA ks.length kc, .int .i64 p] w fun e w' => e = .returned (.tuple #[.int .i64 (partedA L fs ks p).1, .int .i64 (partedA L fs ks p).2]) ∧ Below w.heap.size w w' := by
  unfold partedA
  by_cases h : rkE L fs ks = 0
  · obtain ⟨n, rfl, _⟩ := valid_nat h
    rw [orE_ok h]
    exact refParted_ok n FA fn fc fs KA kc ks p w hfs hks h hfn
  · rw [orE_bad h]
    exact refParted_bad L FA fn fc fs KA kc ks p w hfs hks h
theorem cost_all : Calls Try.prog 36 #[.agg #[.int .i64 L, .slice FA fn fc], .slice KA ks.length kc, .int .i64 p] w fun e w' => e = .returned (.tuple #[.int .i64 (costA L fs ks p).1, .int .i64 (costA L fs ks p).2]) ∧ Below w.heap.size w w' := by
  unfold costA
  by_cases h : rkE L fs ks = 0
  · obtain ⟨n, rfl, _⟩ := valid_nat h
    rw [orE_ok h]
    exact Cost_ok n FA fn fc fs KA kc ks p w hfs hks h (by have := valid_len h; have := hfs.len; omega)
  · rw [orE_bad h]
    exact Cost_bad L FA fn fc fs KA kc ks p w hfs hks h
theorem refCost_all (hfn : fn ≤ 40) : Calls Try.prog 37 #[.agg #[.int .i64 L, .slice FA fn fc], .slice KA ks.length kc, .int .i64 p] w fun e w' => e = .returned (.tuple #[.int .i64 (costA L fs ks p).1, .int .i64 (costA L fs ks p).2]) ∧ Below w.heap.size w w' := by
  unfold costA
  by_cases h : rkE L fs ks = 0
  · obtain ⟨n, rfl, _⟩ := valid_nat h
    rw [orE_ok h]
    exact refCost_ok n FA fn fc fs KA kc ks p w hfs hks h hfn
  · rw [orE_bad h]
    exact refCost_bad L FA fn fc fs KA kc ks p w hfs hks h
end

set_option maxRecDepth 100000 in
set_option maxHeartbeats 4000000 in
theorem parts_law (L : Int) (FA : Option Addr) (fn fc : Nat) (fs : List Int) (KA : Option Addr) (kc : Nat) (ks : List Kd) (p f : Int) (w : World) (hfs : Sl 1 encI w w.heap.size FA fn fc fs) (hks : Sl 3 encK w w.heap.size KA ks.length kc ks) :
    Calls Try.prog 6 #[.agg #[.int .i64 L, .slice FA fn fc], .slice KA ks.length kc, .int .i64 p, .int .i64 f] w fun e w' => e = .returned (.bool true) ∧ Below w.heap.size w w' := by
  have hB := balloc (brefl w) (.cells #[.int .i64 L, .slice FA fn fc] 24)
  have HK := Lib.hid (show LW w (w.alloc (.cells #[.int .i64 L, .slice FA fn fc] 24)) w.heap.size L FA fn fc fs KA kc ks from ⟨hB, Blk.new w _ _, hfs.later hB, hks.later hB⟩)
  clear hB hfs hks
  cases hg : gtB fn ks.length with
  | true =>
    have hgr := Lib.hid (fun W => great_any L FA fn fc KA ks.length kc W)
    rw [hg] at hgr
    go_enter Try.func6, Try.ntmps6
    go_wp2_with fail
    refine (hgr.out _).mono ?_
    rintro e w1 ⟨rfl, hb1⟩
    have HB := Lib.hid (Below.later HK.out.bel hb1)
    clear hb1
    go_wp2_with fail
    refine (works_any _).mono ?_
    rintro e w2 ⟨rfl, hb2⟩
    have HB2 := Lib.hid (Below.later HB.out hb2)
    clear hb2
    go_wp2
    go_ret
    exact ⟨rfl, HB2.out⟩
  | false =>
    have hgr := Lib.hid (fun W => great_any L FA fn fc KA ks.length kc W)
    rw [hg] at hgr
    have hfn : fn ≤ 40 := by
      unfold gtB at hg
      simp only [Bool.or_eq_false_iff, decide_eq_false_iff_not] at hg
      omega
    obtain ⟨r, hr⟩ : ∃ r, partedA L fs ks p = r := ⟨_, rfl⟩
    obtain ⟨q, hq⟩ : ∃ q, costA L fs ks f = q := ⟨_, rfl⟩
    have Hr := Lib.hid hr
    have Hq := Lib.hid hq
    clear hr hq hg
    go_enter Try.func6, Try.ntmps6
    go_wp2_with fail
    refine (hgr.out _).mono ?_
    rintro e w1 ⟨rfl, hb1⟩
    have HK1 := Lib.hid (HK.out.later hb1)
    obtain ⟨c0, c1, c2⟩ := HK1.out.cells
    clear hb1 HK
    go_wp2_with fail
    refine (parted_all L FA fn fc fs KA kc ks p _ HK1.out.fsl HK1.out.ksl).mono ?_
    rintro e w2 ⟨rfl, hb2⟩
    rw [Hr.out]
    have HK2 := Lib.hid (HK1.out.later hb2)
    clear hb2 HK1 c0 c1 c2
    obtain ⟨c0, c1, c2⟩ := HK2.out.cells
    go_wp2_with fail
    refine (refParted_all L FA fn fc fs KA kc ks p _ HK2.out.fsl HK2.out.ksl hfn).mono ?_
    rintro e w3 ⟨rfl, hb3⟩
    rw [Hr.out]
    have HK3 := Lib.hid (HK2.out.later hb3)
    clear hb3 HK2 c0 c1 c2
    obtain ⟨c0, c1, c2⟩ := HK3.out.cells
    go_wp2_with fail
    refine (cost_all L FA fn fc fs KA kc ks f _ HK3.out.fsl HK3.out.ksl).mono ?_
    rintro e w4 ⟨rfl, hb4⟩
    rw [Hq.out]
    have HK4 := Lib.hid (HK3.out.later hb4)
    clear hb4 HK3 c0 c1 c2
    obtain ⟨c0, c1, c2⟩ := HK4.out.cells
    go_wp2_with fail
    refine (refCost_all L FA fn fc fs KA kc ks f _ HK4.out.fsl HK4.out.ksl hfn).mono ?_
    rintro e w5 ⟨rfl, hb5⟩
    rw [Hq.out]
    have HK5 := Lib.hid (HK4.out.later hb5)
    clear hb5 HK4 c0 c1 c2
    go_wp2_with fail
    refine (works_any _).mono ?_
    rintro e w6 ⟨rfl, hb6⟩
    have HB := Lib.hid (HK5.out.later hb6).bel
    clear hb6 HK5
    go_wp2
    go_ret
    exact ⟨rfl, HB.out⟩
end Go.Proofs.Ytjmphmnimnbgkaa
