/- The walk of SteamYards. -/
import Derived.Test.YtbbdlebmagknmaaSAll
namespace Go.Proofs.Ytbbdlebmagknmaa
open Go.RowKit Go.Shelf

set_option maxRecDepth 100000 in
set_option maxHeartbeats 4000000 in
theorem yards_law (L : Int) (A : Option Addr) (n c : Nat) (rs : List Rg) (H : Option Addr) (hn hc : Nat) (hh : List Int) (wd : Rg) (w : World) (hs : Sl 2 encR w w.heap.size A n c rs) (ht : Sl 1 encI w w.heap.size H hn hc hh) :
    Calls Try.prog 3 #[.agg #[.int .i64 L, .slice A n c], .slice H hn hc, .agg #[.int .i64 wd.lo, .int .i64 wd.hi]] w fun e w' => e = .returned (.bool true) ∧ Below w.heap.size w w' := by
  have hB := balloc (balloc (brefl w) (.cells #[.int .i64 L, .slice A n c] 24)) (.cells #[.int .i64 wd.lo, .int .i64 wd.hi] 27)
  have hbl := Blk.new (w.alloc (.cells #[.int .i64 L, .slice A n c] 24)) 27 #[.int .i64 wd.lo, .int .i64 wd.hi]
  rw [World.size_alloc] at hbl
  have HK := Lib.hid (show LW w ((w.alloc (.cells #[.int .i64 L, .slice A n c] 24)).alloc (.cells #[.int .i64 wd.lo, .int .i64 wd.hi] 27)) w.heap.size L A n c rs from ⟨hB, (Blk.new w _ _).alloc _, hs.later hB⟩)
  have HH := Lib.hid (ht.later hB)
  have HB := Lib.hid hbl
  clear hB hs ht hbl
  have hgr := Lib.hid (fun W => great_any L A n c W)
  cases hg : grB n with
  | true =>
    rw [hg] at hgr
    go_enter Try.func3, Try.ntmps3
    go_wp2_with fail
    refine (hgr.out _).mono ?_
    rintro e w1 ⟨rfl, hb1⟩
    have HE := Lib.hid (Below.later HK.out.bel hb1)
    clear hb1
    go_wp2_with fail
    refine (works_any _).mono ?_
    rintro e w2 ⟨rfl, hb2⟩
    have HB2 := Lib.hid (Below.later HE.out hb2)
    clear hb2
    go_wp2
    go_ret
    exact ⟨rfl, HB2.out⟩
  | false =>
    rw [hg] at hgr
    cases hcn : decide ((16 : Int) < (hn : Int)) with
    | true =>
      go_enter Try.func3, Try.ntmps3
      go_wp2_with fail
      refine (hgr.out _).mono ?_
      rintro e w1 ⟨rfl, hb1⟩
      have HE := Lib.hid (Below.later HK.out.bel hb1)
      clear hb1
      go_wp2_with fail
      refine (works_any _).mono ?_
      rintro e w2 ⟨rfl, hb2⟩
      have HB2 := Lib.hid (Below.later HE.out hb2)
      clear hb2
      go_wp2
      go_ret
      exact ⟨rfl, HB2.out⟩
    | false =>
      obtain ⟨x1, hx1⟩ : ∃ x, hoursV L rs hh = x := ⟨_, rfl⟩
      obtain ⟨x2, hx2⟩ : ∃ x, hoursE L rs hh = x := ⟨_, rfl⟩
      obtain ⟨x3, hx3⟩ : ∃ x, needV L rs wd = x := ⟨_, rfl⟩
      obtain ⟨x4, hx4⟩ : ∃ x, needE L rs wd = x := ⟨_, rfl⟩
      obtain ⟨x5, hx5⟩ : ∃ x, yardE L rs = x := ⟨_, rfl⟩
      have X1 := Lib.hid hx1
      have X2 := Lib.hid hx2
      have X3 := Lib.hid hx3
      have X4 := Lib.hid hx4
      have X5 := Lib.hid hx5
      clear hx1 hx2 hx3 hx4 hx5 hg
      go_enter Try.func3, Try.ntmps3
      go_wp2_with fail
      refine (hgr.out _).mono ?_
      rintro e w1 ⟨rfl, hb1⟩
      have HK1 := Lib.hid (HK.out.later hb1)
      have HH1 := Lib.hid (HH.out.later hb1)
      have HB1 := Lib.hid (HB.out.later hb1)
      obtain ⟨c0, c1, c2⟩ := HK1.out.cells
      clear hb1 HK HH HB
      go_wp2_with fail
      refine (checkHours_any L A n c rs H hn hc hh _ HK1.out.sl HH1.out).mono ?_
      rintro e w2 ⟨rfl, hb2⟩
      rw [X1.out, X2.out]
      have HK2 := Lib.hid (HK1.out.later hb2)
      have HH2 := Lib.hid (HH1.out.later hb2)
      have HB2 := Lib.hid (HB1.out.later hb2)
      clear hb2 HK1 HH1 HB1 c0 c1 c2
      obtain ⟨c0, c1, c2⟩ := HK2.out.cells
      go_wp2_with fail
      refine (refHours_any L A n c rs H hn hc hh _ HK2.out.sl HH2.out).mono ?_
      rintro e w3 ⟨rfl, hb3⟩
      rw [X1.out, X2.out]
      have HK3 := Lib.hid (HK2.out.later hb3)
      have HB3 := Lib.hid (HB2.out.later hb3)
      clear hb3 HK2 HH2 HB2 c0 c1 c2
      obtain ⟨c0, c1, c2⟩ := HK3.out.cells
      have d0 := HB3.out.cell 0
      have d1 := HB3.out.cell 1
      have d2 := HB3.out.lt
      go_wp2_with fail
      refine (needC_any L A n c rs wd _ HK3.out.sl).mono ?_
      rintro e w4 ⟨rfl, hb4⟩
      rw [X3.out, X4.out]
      have HK4 := Lib.hid (HK3.out.later hb4)
      have HB4 := Lib.hid (HB3.out.later hb4)
      clear hb4 HK3 HB3 c0 c1 c2 d0 d1 d2
      obtain ⟨c0, c1, c2⟩ := HK4.out.cells
      have d0 := HB4.out.cell 0
      have d1 := HB4.out.cell 1
      have d2 := HB4.out.lt
      go_wp2_with fail
      refine (refNeedC_any L A n c rs wd _ HK4.out.sl).mono ?_
      rintro e w5 ⟨rfl, hb5⟩
      rw [X3.out, X4.out]
      have HK5 := Lib.hid (HK4.out.later hb5)
      clear hb5 HK4 HB4 c0 c1 c2 d0 d1 d2
      obtain ⟨c0, c1, c2⟩ := HK5.out.cells
      go_wp2_with fail
      refine dag 29 (by kernel_rfl) (by kernel_rfl) (.is ?_ :: .is ?_ :: .is ?_ :: .is ?_ :: .is ?_ :: .is ?_ :: .is ?_ :: .is ?_ :: .is ?_ :: .is ?_ :: .is ?_ :: .is ?_ :: .is ?_ :: .is ?_ :: .is ?_ :: .is ?_ :: .is ?_ :: .is ?_ :: .is ?_ :: .is ?_ :: .is ?_ :: .is ?_ :: .is ?_ :: .is ?_ :: .is ?_ :: .is ?_ :: .is ?_ :: .is ?_ :: .is ?_ :: []) rfl ?st1 ?ob1
      case st1 => simp [Spec.ok]
      case ob1 =>
        intro env W' hG
        obtain ⟨hc, hf⟩ := bcell hG
        (refine obls_is ?_ ?_; unfold doesAt; go_simp; (try go_bits); (first | (refine ⟨brefl _, ?_⟩; rfl) | rfl); intro K hK; go_simp; refine hK _ ?_; clear hK K)
        refine obls_is ?_ ?_
        · unfold doesAt
          go_simp
          refine (checkYard_any L A n c rs W' (HK5.out.later hG).sl).mono ?_
          rintro e w1 ⟨rfl, hb1⟩
          refine ⟨?_, hb1⟩
          rw [X5.out]
        intro K hK
        go_simp
        refine hK _ ?_
        clear hK K
        (refine obls_is ?_ ?_; unfold doesAt; go_simp; (try go_bits); (first | (refine ⟨brefl _, ?_⟩; rfl) | rfl); intro K hK; go_simp; refine hK _ ?_; clear hK K)
        refine obls_is ?_ ?_
        · unfold doesAt
          go_simp
          refine (refYard_any L A n c rs W' (HK5.out.later hG).sl).mono ?_
          rintro e w1 ⟨rfl, hb1⟩
          refine ⟨?_, hb1⟩
          rw [X5.out]
        intro K hK
        go_simp
        refine hK _ ?_
        clear hK K
        iterate 22 (refine obls_is ?_ ?_; unfold doesAt; go_simp; (try go_bits); (first | (refine ⟨brefl _, ?_⟩; rfl) | rfl); intro K hK; go_simp; refine hK _ ?_; clear hK K)
        refine obls_is ?_ ?_
        · unfold doesAt
          go_simp
          refine (works_any W').mono ?_
          rintro e w1 ⟨rfl, hb1⟩
          refine ⟨?_, hb1⟩
          rfl
        intro K hK
        go_simp
        refine hK _ ?_
        clear hK K
        repeat (refine obls_is ?_ ?_; unfold doesAt; go_simp; (try go_bits); (first | (refine ⟨brefl _, ?_⟩; rfl) | rfl); intro K hK; go_simp; refine hK _ ?_; clear hK K)
        refine obls_nil (fun _ => ?_)
        have HE := Lib.hid (Below.later HK5.out.bel hG)
        clear hc hf hG
        go_wp2
        go_ret
        exact ⟨rfl, HE.out⟩
end Go.Proofs.Ytbbdlebmagknmaa
