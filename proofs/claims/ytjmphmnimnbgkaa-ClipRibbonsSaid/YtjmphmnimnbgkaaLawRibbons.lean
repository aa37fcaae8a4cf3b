/- The walk of ClipRibbons. -/
import Derived.Test.YtjmphmnimnbgkaaAll
namespace Go.Proofs.Ytjmphmnimnbgkaa
open Go.RowKit Go.Shelf

set_option maxRecDepth 100000 in
set_option maxHeartbeats 4000000 in
theorem ribbons_law (L : Int) (FA : Option Addr) (fn fc : Nat) (fs : List Int) (KA : Option Addr) (kc : Nat) (ks : List Kd) (CA : Option Addr) (cn cc : Nat) (cuts : List Sh) (w : World) (hfs : Sl 1 encI w w.heap.size FA fn fc fs) (hks : Sl 3 encK w w.heap.size KA ks.length kc ks) (hC : Sl 2 encS w w.heap.size CA cn cc cuts) :
    Calls Try.prog 3 #[.agg #[.int .i64 L, .slice FA fn fc], .slice KA ks.length kc, .slice CA cn cc] w fun e w' => e = .returned (.bool true) ∧ Below w.heap.size w w' := by
  have hB := balloc (brefl w) (.cells #[.int .i64 L, .slice FA fn fc] 24)
  have HK := Lib.hid (show LW w (w.alloc (.cells #[.int .i64 L, .slice FA fn fc] 24)) w.heap.size L FA fn fc fs KA kc ks from ⟨hB, Blk.new w _ _, hfs.later hB, hks.later hB⟩)
  have HC := Lib.hid (hC.later hB)
  clear hB hfs hks hC
  cases hg : gtB fn ks.length with
  | true =>
    have hgr := Lib.hid (fun W => great_any L FA fn fc KA ks.length kc W)
    rw [hg] at hgr
    go_enter Try.func3, Try.ntmps3
    go_wp2_with fail
    refine (hgr.out _).mono ?_
    rintro e w1 ⟨rfl, hb1⟩
    have HB := Lib.hid (Below.later HK.out.bel hb1)
    clear hb1
    go_wp2_with fail
    refine (works_any _).mono ?_
    rintro e w2 ⟨rfl, hb2⟩
    have HB2 := Lib.hid (Below.later HB.out hb2)
    clear hb2
    go_wp2
    go_ret
    exact ⟨rfl, HB2.out⟩
  | false =>
    have hgr := Lib.hid (fun W => great_any L FA fn fc KA ks.length kc W)
    rw [hg] at hgr
    cases hcn : decide ((40 : Int) < (cn : Int)) with
    | true =>
      go_enter Try.func3, Try.ntmps3
      go_wp2_with fail
      refine (hgr.out _).mono ?_
      rintro e w1 ⟨rfl, hb1⟩
      have HB := Lib.hid (Below.later HK.out.bel hb1)
      clear hb1
      go_wp2_with fail
      refine (works_any _).mono ?_
      rintro e w2 ⟨rfl, hb2⟩
      have HB2 := Lib.hid (Below.later HB.out hb2)
      clear hb2
      go_wp2
      go_ret
      exact ⟨rfl, HB2.out⟩
    | false =>
      obtain ⟨r, hr⟩ : ∃ r, (orE L fs ks fun n => cutsP n (Fst fs n) ks cuts) = r := ⟨_, rfl⟩
      obtain ⟨re, hre⟩ : ∃ re, ribE L fs = re := ⟨_, rfl⟩
      obtain ⟨ke, hke⟩ : ∃ ke, kndE ks = ke := ⟨_, rfl⟩
      have Hr := Lib.hid hr
      have Hre := Lib.hid hre
      have Hke := Lib.hid hke
      clear hr hre hke hg
      go_enter Try.func3, Try.ntmps3
      go_wp2_with fail
      refine (hgr.out _).mono ?_
      rintro e w1 ⟨rfl, hb1⟩
      have HK1 := Lib.hid (HK.out.later hb1)
      have HC1 := Lib.hid (HC.out.later hb1)
      obtain ⟨c0, c1, c2⟩ := HK1.out.cells
      clear hb1 HK HC
      go_wp2_with fail
      refine (checkCuts_all L FA fn fc fs KA kc ks _ HK1.out.fsl HK1.out.ksl CA cn cc cuts HC1.out).mono ?_
      rintro e w2 ⟨rfl, hb2⟩
      rw [Hr.out]
      have HK2 := Lib.hid (HK1.out.later hb2)
      have HC2 := Lib.hid (HC1.out.later hb2)
      clear hb2 HK1 HC1 c0 c1 c2
      obtain ⟨c0, c1, c2⟩ := HK2.out.cells
      go_wp2_with fail
      refine (refCuts_all L FA fn fc fs KA kc ks _ HK2.out.fsl HK2.out.ksl CA cn cc cuts HC2.out).mono ?_
      rintro e w3 ⟨rfl, hb3⟩
      rw [Hr.out]
      have HK3 := Lib.hid (HK2.out.later hb3)
      clear hb3 HK2 HC2 c0 c1 c2
      obtain ⟨c0, c1, c2⟩ := HK3.out.cells
      go_wp2_with fail
      refine dag 26 (by kernel_rfl) (by kernel_rfl) (.is ?_ :: .is ?_ :: .is ?_ :: .is ?_ :: .is ?_ :: .is ?_ :: .is ?_ :: .is ?_ :: .is ?_ :: .is ?_ :: .is ?_ :: .is ?_ :: .is ?_ :: .is ?_ :: .is ?_ :: .is ?_ :: .is ?_ :: .is ?_ :: .is ?_ :: .is ?_ :: .is ?_ :: .is ?_ :: .is ?_ :: .is ?_ :: .is ?_ :: .is ?_ :: []) rfl ?st1 ?ob1
      case st1 => simp [Spec.ok]
      case ob1 =>
        intro env W' hG
        obtain ⟨hc, hf⟩ := bcell hG
        (refine obls_is ?_ ?_; unfold doesAt; go_simp; (try go_bits); (first | (refine ⟨brefl _, ?_⟩; rfl) | rfl); intro K hK; go_simp; refine hK _ ?_; clear hK K)
        refine obls_is ?_ ?_
        · unfold doesAt
          go_simp
          refine (ribbon_any L FA fn fc fs W' (HK3.out.later hG).fsl).mono ?_
          rintro e w1 ⟨rfl, hb1⟩
          refine ⟨?_, hb1⟩
          rw [Hre.out]
        intro K hK
        go_simp
        refine hK _ ?_
        clear hK K
        (refine obls_is ?_ ?_; unfold doesAt; go_simp; (try go_bits); (first | (refine ⟨brefl _, ?_⟩; rfl) | rfl); intro K hK; go_simp; refine hK _ ?_; clear hK K)
        refine obls_is ?_ ?_
        · unfold doesAt
          go_simp
          refine (refRib_any L FA fn fc fs W' (HK3.out.later hG).fsl).mono ?_
          rintro e w1 ⟨rfl, hb1⟩
          refine ⟨?_, hb1⟩
          rw [Hre.out]
        intro K hK
        go_simp
        refine hK _ ?_
        clear hK K
        iterate 3 (refine obls_is ?_ ?_; unfold doesAt; go_simp; (try go_bits); (first | (refine ⟨brefl _, ?_⟩; rfl) | rfl); intro K hK; go_simp; refine hK _ ?_; clear hK K)
        refine obls_is ?_ ?_
        · unfold doesAt
          go_simp
          refine (kinds_any KA ks.length kc ks W' (HK3.out.later hG).ksl).mono ?_
          rintro e w1 ⟨rfl, hb1⟩
          refine ⟨?_, hb1⟩
          rw [Hke.out]
        intro K hK
        go_simp
        refine hK _ ?_
        clear hK K
        (refine obls_is ?_ ?_; unfold doesAt; go_simp; (try go_bits); (first | (refine ⟨brefl _, ?_⟩; rfl) | rfl); intro K hK; go_simp; refine hK _ ?_; clear hK K)
        refine obls_is ?_ ?_
        · unfold doesAt
          go_simp
          refine (refKinds_any KA kc ks W' (HK3.out.later hG).ksl).mono ?_
          rintro e w1 ⟨rfl, hb1⟩
          refine ⟨?_, hb1⟩
          rw [Hke.out]
        intro K hK
        go_simp
        refine hK _ ?_
        clear hK K
        iterate 13 (refine obls_is ?_ ?_; unfold doesAt; go_simp; (try go_bits); (first | (refine ⟨brefl _, ?_⟩; rfl) | rfl); intro K hK; go_simp; refine hK _ ?_; clear hK K)
        refine obls_is ?_ ?_
        · unfold doesAt
          go_simp
          refine (works_any W').mono ?_
          rintro e w1 ⟨rfl, hb1⟩
          refine ⟨?_, hb1⟩
          rfl
        intro K hK
        go_simp
        refine hK _ ?_
        clear hK K
        repeat (refine obls_is ?_ ?_; unfold doesAt; go_simp; (try go_bits); (first | (refine ⟨brefl _, ?_⟩; rfl) | rfl); intro K hK; go_simp; refine hK _ ?_; clear hK K)
        refine obls_nil (fun _ => ?_)
        have HB := Lib.hid (Below.later HK3.out.bel hG)
        clear hc hf hG
        go_wp2
        go_ret
        exact ⟨rfl, HB.out⟩
end Go.Proofs.Ytjmphmnimnbgkaa
