/- The walk of ClipProved. -/
import Derived.Test.YtjmphmnimnbgkaaGiven
namespace Go.Proofs.Ytjmphmnimnbgkaa
open Go.RowKit Go.Shelf

set_option maxRecDepth 100000 in
set_option maxHeartbeats 4000000 in
theorem proved_law (L : Int) (FA : Option Addr) (fn fc : Nat) (fs : List Int) (KA : Option Addr) (kc : Nat) (ks : List Kd) (BA : Option Addr) (bn bc : Nat) (bs : List Nat) (PA : Option Addr) (pn pc : Nat) (ps : List Int) (w : World) (hfs : Sl 1 encI w w.heap.size FA fn fc fs) (hks : Sl 3 encK w w.heap.size KA ks.length kc ks) (hbs : Sl 1 encB w w.heap.size BA bn bc bs) (hbd : ∀ x ∈ bs, x < 256) (hps : Sl 1 encI w w.heap.size PA pn pc ps) :
    Calls Try.prog 7 #[.agg #[.int .i64 L, .slice FA fn fc], .slice KA ks.length kc, .slice BA bn bc, .slice PA pn pc] w fun e w' => e = .returned (.bool true) ∧ Below w.heap.size w w' := by
  have hB := balloc (brefl w) (.cells #[.int .i64 L, .slice FA fn fc] 24)
  have HK := Lib.hid (show LW w (w.alloc (.cells #[.int .i64 L, .slice FA fn fc] 24)) w.heap.size L FA fn fc fs KA kc ks from ⟨hB, Blk.new w _ _, hfs.later hB, hks.later hB⟩)
  have Hbs := Lib.hid hbs
  have Hps := Lib.hid hps
  have Hbd := Lib.hid hbd
  have hfi := Lib.hid (fun W h1 h2 => fine_any L FA fn fc fs KA kc ks W h1 h2)
  clear hB hfs hks hbs hps hbd
  cases hg : (fineB L fn fs ks && !decide ((60 : Int) < (bn : Int)) && !decide ((40 : Int) < (pn : Int))) with
  | false =>
    have hway : (fineB L fn fs ks = false) ∨ (fineB L fn fs ks = true ∧ decide ((60 : Int) < (bn : Int)) = true) ∨ (fineB L fn fs ks = true ∧ decide ((60 : Int) < (bn : Int)) = false ∧ decide ((40 : Int) < (pn : Int)) = true) := by
      cases h1 : fineB L fn fs ks <;> cases h2 : decide ((60 : Int) < (bn : Int)) <;> cases h3 : decide ((40 : Int) < (pn : Int)) <;> simp_all
    clear hg
    rcases hway with h1 | ⟨h1, h2⟩ | ⟨h1, h2, h3⟩
    all_goals
      rw [h1] at hfi
      clear h1
      go_enter Try.func7, Try.ntmps7
      go_wp2_with fail
      refine (hfi.out _ HK.out.fsl HK.out.ksl).mono ?_
      rintro e w1 ⟨rfl, hb1⟩
      have HB := Lib.hid (Below.later HK.out.bel hb1)
      clear hb1
      go_wp2_with fail
      refine (works_any _).mono ?_
      rintro e w2 ⟨rfl, hb2⟩
      have HB2 := Lib.hid (Below.later HB.out hb2)
      clear hb2
      go_wp2
      go_ret
      exact ⟨rfl, HB2.out⟩
  | true =>
    simp only [Bool.and_eq_true, Bool.not_eq_true'] at hg
    obtain ⟨⟨h1, h2⟩, h3⟩ := hg
    rw [h1] at hfi
    obtain ⟨he, hfn, _⟩ := fine_rk h1
    obtain ⟨n, rfl, hl1, hl2, hko⟩ := valid_nat he
    have hbn : bn ≤ 60 := by simp at h2; omega
    obtain ⟨g, hgd⟩ : ∃ g, givenP n (Fst fs n) ks bs 0 = g := ⟨_, rfl⟩
    obtain ⟨v, hv⟩ : ∃ v, behindAt n (Fst fs n) ks n 0 = v := ⟨_, rfl⟩
    obtain ⟨a, ha⟩ : ∃ a, valL ks g = a := ⟨_, rfl⟩
    obtain ⟨r, hr⟩ : ∃ r, pricesP n (Fst fs n) ks ps = r := ⟨_, rfl⟩
    have hgood := given_good (F := Fst fs n) hko bs 0 (Nat.zero_le n)
    rw [hgd] at hgood
    have hcw := hgood.worth hko
    rw [ha] at hcw
    have hav := hgood.le hko
    rw [ha, hv] at hav
    have d1 : decide (v < a) = false := by simp; omega
    have hpp := prices_prove (F := Fst fs n) hko hl2
    rw [hv] at hpp
    have hrw : r.2 = 0 → v ≤ r.1 ∧ a ≤ r.1 := fun h => by
      rw [← hr] at h ⊢
      have := prices_best hko h
      rw [hv] at this
      omega
    have Hgd := Lib.hid hgd
    have Hv := Lib.hid hv
    have Hr := Lib.hid hr
    have Hcw := Lib.hid hcw
    have Hpp := Lib.hid hpp
    have He := Lib.hid he
    have Hk := Lib.hid hko
    clear hgd hv ha hr hgood hcw hav hpp he hko h1
    go_enter Try.func7, Try.ntmps7
    go_wp2_with fail
    refine (hfi.out _ HK.out.fsl HK.out.ksl).mono ?_
    rintro e w1 ⟨rfl, hb1⟩
    have HK1 := Lib.hid (HK.out.later hb1)
    obtain ⟨c0, c1, c2⟩ := HK1.out.cells
    clear hb1 HK hfi
    go_wp2_with fail
    refine (best_fine n FA fn fc fs KA kc ks _ HK1.out.fsl HK1.out.ksl He.out).mono ?_
    rintro e w2 ⟨G2, n2, d2, rfl, hb2, _⟩
    rw [Hv.out]
    have HK2 := Lib.hid (HK1.out.later hb2)
    clear hb2 HK1 c0 c1 c2
    obtain ⟨c0, c1, c2⟩ := HK2.out.cells
    go_wp2_with fail
    refine dag 12 (by kernel_rfl) (by kernel_rfl) (.is ?_ :: .is ?_ :: .is ?_ :: .is ?_ :: .is ?_ :: .like (IsSheets g) :: .is ?_ :: .is ?_ :: .is ?_ :: .is ?_ :: .is ?_ :: .is ?_ :: []) rfl ?st ?ob
    case st => repeat (first | exact stab_nil | refine stab_is ?_ | refine stab_like IsSheets.stab ?_)
    case ob =>
      intro env W' hG
      obtain ⟨hc, hf⟩ := bcell hG
      iterate 5 (refine obls_is ?_ ?_; unfold doesAt; go_simp; (try go_bits); (first | (refine ⟨brefl _, ?_⟩; rfl) | rfl); intro K hK; go_simp; refine hK _ ?_; clear hK K)
      refine obls_like (fun _ => ?_) ?_
      · unfold doesAt
        go_simp
        have hK' := HK2.out.later hG
        refine (given_any n FA fn fc fs KA kc ks BA bn bc bs W' hK'.fsl hK'.ksl (Hbs.out.later hK'.bel) Hbd.out hbn hl2 Hk.out).mono ?_
        rintro e w3 ⟨u, rfl, hb3, hown⟩
        rw [Hgd.out] at hown
        exact ⟨u, rfl, hb3, own_slS hown⟩
      intro K hK
      go_simp
      refine hK _ ?_
      clear hK K
      refine obls_isL (fun hl => ?_) ?_
      · obtain ⟨G, m, c, hE, hsl⟩ : IsSheets g (env 5) W' := hl ⟨5, .data⟩ (by simp) rfl
        have hw := CheckCuts_ok n FA fn fc fs KA kc ks G m c g W' (HK2.out.later hG).fsl (HK2.out.later hG).ksl hsl He.out
        rw [Hcw.out] at hw
        clear hsl
        unfold doesAt
        go_simp
        refine hw.mono ?_
        rintro e w3 ⟨rfl, hb3⟩
        refine ⟨?_, hb3⟩
        rfl
      intro K hK
      go_simp
      refine hK _ ?_
      clear hK K
      repeat (refine obls_is ?_ ?_; unfold doesAt; go_simp; (try go_bits); (first | (refine ⟨brefl _, ?_⟩; rfl) | rfl); intro K hK; go_simp; refine hK _ ?_; clear hK K)
      refine obls_nil (fun _ => ?_)
      have HK3 := Lib.hid (HK2.out.later hG)
      clear hc hf hG HK2 c0 c1 c2
      obtain ⟨c0, c1, c2⟩ := HK3.out.cells
      go_wp2_with fail
      refine (Prices_ok n FA fn fc fs KA kc ks _ HK3.out.fsl HK3.out.ksl He.out).mono ?_
      rintro e w4 ⟨G4, d4, rfl, hb4, hS4⟩
      have HK4 := Lib.hid (HK3.out.later hb4)
      have HS4 := Lib.hid hS4
      clear hb4 HK3 c0 c1 c2 hS4
      obtain ⟨c0, c1, c2⟩ := HK4.out.cells
      go_wp2_with fail
      refine (CheckPrices_ok n FA fn fc fs KA kc ks G4 n d4 _ _ HK4.out.fsl HK4.out.ksl HS4.out He.out).mono ?_
      rintro e w5 ⟨rfl, hb5⟩
      rw [Hpp.out]
      have HK5 := Lib.hid (HK4.out.later hb5)
      have HS5 := Lib.hid (HS4.out.later hb5)
      clear hb5 HK4 HS4 c0 c1 c2
      obtain ⟨c0, c1, c2⟩ := HK5.out.cells
      go_wp2_with fail
      refine (refPrices_ok n FA fn fc fs KA kc ks G4 n d4 _ _ HK5.out.fsl HK5.out.ksl HS5.out He.out).mono ?_
      rintro e w6 ⟨rfl, hb6⟩
      rw [Hpp.out]
      have HK6 := Lib.hid (HK5.out.later hb6)
      clear hb6 HK5 HS5 c0 c1 c2
      obtain ⟨c0, c1, c2⟩ := HK6.out.cells
      go_wp2_with fail
      refine (CheckPrices_ok n FA fn fc fs KA kc ks PA pn pc ps _ HK6.out.fsl HK6.out.ksl (Hps.out.later HK6.out.bel) He.out).mono ?_
      rintro e w7 ⟨rfl, hb7⟩
      rw [Hr.out]
      have HK7 := Lib.hid (HK6.out.later hb7)
      clear hb7 HK6 c0 c1 c2
      by_cases hr2 : r.2 = 0
      · obtain ⟨hr3, hr4⟩ := hrw hr2
        have d2 : (r.2 != 0) = false := by simp [hr2]
        have d3 : decide (v ≤ r.1) = true := by simpa using hr3
        have d4 : decide (a ≤ r.1) = true := by simpa using hr4
        clear hr2 hr3 hr4 hrw
        go_wp2_with fail
        refine (works_any _).mono ?_
        rintro e w8 ⟨rfl, hb8⟩
        have HB := Lib.hid (HK7.out.later hb8).bel
        clear hb8
        go_wp2
        go_ret
        exact ⟨rfl, HB.out⟩
      · have d2 : (r.2 != 0) = true := by simpa using hr2
        clear hr2 hrw
        go_wp2_with fail
        refine (works_any _).mono ?_
        rintro e w8 ⟨rfl, hb8⟩
        have HB := Lib.hid (HK7.out.later hb8).bel
        clear hb8
        go_wp2
        go_ret
        exact ⟨rfl, HB.out⟩
end Go.Proofs.Ytjmphmnimnbgkaa
