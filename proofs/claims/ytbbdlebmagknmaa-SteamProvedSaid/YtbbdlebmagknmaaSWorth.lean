/- Right hours have at least the fewest loads; a right proof proves at most as many. No program. -/
import Derived.Test.YtbbdlebmagknmaaSFin
namespace Go.Proofs.Ytbbdlebmagknmaa
open Go.RowKit Go.Shelf

theorem la_chain {rs : List Rg} {L : Nat} (hr : RsOk rs) (hL : 1 ≤ L) : ∃ v : Nat, LA rs L 101 = v ∧ Fill.Chain Rg.lo Rg.hi L rs 100 v ∧ ∀ u, Fill.Chain Rg.lo Rg.hi L rs 100 u → u ≤ v := by
  obtain ⟨l, hl⟩ : ∃ l, rs.mergeSort (fun a b => decide (a.hi ≤ b.hi)) = l := ⟨_, rfl⟩
  have hp : l.Perm rs := hl ▸ List.mergeSort_perm rs _
  have hs : l.Pairwise (fun a b => a.hi ≤ b.hi) := by
    have h := List.pairwise_mergeSort (le := fun a b : Rg => decide (a.hi ≤ b.hi)) (fun a b c h1 h2 => by simp at *; omega) (fun a b => by simp; omega) rs
    rw [hl] at h
    exact h.imp fun h => by simpa using h
  have h1 := Fill.least_fill Rg.lo Rg.hi L hL rs l (fun x hx => (hr.2 x hx).1) (fun x hx => (hr.2 x hx).2.1) hs (fun x hx => hp.mem_iff.1 hx) (fun p => hp.countP_eq p) rs.length (by rw [hp.length_eq]; exact Nat.le_refl _) 101 101 (Nat.le_refl _)
  have h2 := Fill.fill_max Rg.lo Rg.hi L hL rs l (fun x hx => (hr.2 x hx).2.1) hs (fun x hx => hp.mem_iff.1 hx) (fun p => hp.countP_eq p) rs.length (by rw [hp.length_eq]; exact Nat.le_refl _) 100
  rw [least_low rs L 101 101 (Nat.le_refl _)] at h1
  exact ⟨_, h1, h2.1, h2.2⟩
/-- **Right hours have at least the fewest loads.** -/
theorem hours_least {rs : List Rg} {L : Nat} {hs : List Int} (hr : RsOk rs) (hL : 1 ≤ L) (hlen : hs.length = rs.length) (hok : (hs.zip rs).any wrongB = false) : LA rs L 101 ≤ loadsP (L : Int) hs := by
  obtain ⟨v, hv, hc, _⟩ := la_chain hr hL
  have hf : (rs.zip hs).map (·.1) = rs := List.map_fst_zip (by omega)
  have hsn : (rs.zip hs).map (·.2) = hs := List.map_snd_zip (by omega)
  have h1 := Fill.hours_chain Rg.lo Rg.hi L hL rs (rs.zip hs) (fun p hp => by
    obtain ⟨j, hj⟩ := List.getElem?_of_mem hp
    obtain ⟨h1, h2⟩ := List.getElem?_zip_eq_some.1 hj
    have h3 := hr.2 p.1 (List.mem_of_getElem? h1)
    have h4 : (p.2, p.1) ∈ hs.zip rs := List.mem_of_getElem? (List.getElem?_zip_eq_some.2 ⟨h2, h1⟩ : (hs.zip rs)[j]? = some (p.2, p.1))
    have h5 := List.any_eq_false.1 hok _ h4
    unfold wrongB at h5
    rw [Bool.not_eq_true, Bool.not_eq_false', inR_iff] at h5
    simp only at h5
    exact ⟨h5, by omega, by omega⟩) (fun q => by
    conv => lhs; rw [← hf]
    rw [List.countP_map]; rfl) hc
  rw [hsn] at h1
  have h2 : loadsP (L : Int) hs = (Fill.loadsN L hs : Nat) := by
    unfold loadsP Fill.loadsN
    exact loads_nat L hL _ 101
  rw [hv, h2]
  exact_mod_cast h1
theorem need_nonneg (rs : List Rg) (L : Nat) (hL : 1 ≤ L) (r : Rg) : 0 ≤ needP (L : Int) rs r := by
  rw [← need_eq]
  exact (Fill.count_need Rg.lo Rg.hi L hL rs r.lo r.hi).1
theorem sep_chain {rs : List Rg} {L : Nat} (hr : RsOk rs) (hL : 1 ≤ L) : ∀ (ws : List Rg) (e : Int) (v : Nat), e ≤ 100 → (∀ r ∈ ws, r.lo ≤ r.hi ∧ r.hi ≤ 100) → sepB e ws = true → Fill.Chain Rg.lo Rg.hi L rs e v → ∃ u : Nat, (u : Int) = (v : Int) + (ws.map (needP (L : Int) rs)).sum ∧ Fill.Chain Rg.lo Rg.hi L rs 100 u
  | [], e, v, he, _, _, hc => ⟨v, by simp, hc.mono Rg.lo Rg.hi he⟩
  | r :: ws, e, v, he, hw, hs, hc => by
    obtain ⟨hr1, hr2⟩ := hw r (by simp)
    simp only [sepB, Bool.and_eq_true, decide_eq_true_eq] at hs
    have hc1 : Fill.Chain Rg.lo Rg.hi L rs (r.lo - 1) v := hc.mono Rg.lo Rg.hi (by omega)
    have hcn := Fill.count_need Rg.lo Rg.hi L hL rs r.lo r.hi
    rw [need_eq] at hcn
    obtain ⟨q, hq⟩ : ∃ q : Nat, needP (L : Int) rs r = q := ⟨(needP (L : Int) rs r).toNat, by have := hcn.1; omega⟩
    rw [hq, Int.toNat_natCast] at hcn
    have hgo : Fill.Chain Rg.lo Rg.hi L rs r.hi (v + q) := by
      cases q with
      | zero => exact hc1.mono Rg.lo Rg.hi (by omega)
      | succ m =>
        have hpos : 1 ≤ rs.countP (Fill.inW Rg.lo Rg.hi (r.lo - 1) r.hi) := by
          rcases Nat.eq_zero_or_pos (rs.countP (Fill.inW Rg.lo Rg.hi (r.lo - 1) r.hi)) with h0 | h0
          · exfalso
            have e1 : rs.countP (inWd r) = 0 := by
              rw [← h0]
              congr 1
              funext x
              unfold inWd Fill.inW
              congr 1
              exact decide_eq_decide.2 (by omega)
            have e2 : needP (L : Int) rs r = 0 := by
              unfold needP upI
              rw [e1]
              exact Int.ediv_eq_zero_of_lt (by omega) (by omega)
            omega
          · exact h0
        have h2 := hcn.2 hpos
        rw [Nat.add_sub_cancel] at h2
        obtain ⟨x0, hx0, hp0⟩ := List.countP_pos_iff.1 hpos
        obtain ⟨x, hx, hpx, hmax⟩ := Fill.least_lo (fun y : Rg => - y.hi) (Fill.inW Rg.lo Rg.hi (r.lo - 1) r.hi) rs x0 hx0 hp0
        obtain ⟨a1, a2⟩ := (Fill.inW_iff Rg.lo Rg.hi).1 hpx
        refine (Fill.Chain.more Rg.lo Rg.hi (fun y hy => (hr.2 y hy).2.1) hc1 hx a1 rfl (Nat.le_trans h2 (List.countP_mono_left fun z hz hp => ?_))).mono Rg.lo Rg.hi a2
        have h3 := hmax z hz hp
        obtain ⟨b1, b2⟩ := (Fill.inW_iff Rg.lo Rg.hi).1 hp
        exact (Fill.inW_iff Rg.lo Rg.hi).2 ⟨b1, by omega⟩
    obtain ⟨u, hu, huc⟩ := sep_chain hr hL ws r.hi (v + q) hr2 (fun y hy => hw y (by simp [hy])) hs.2 hgo
    refine ⟨u, ?_, huc⟩
    rw [hu, List.map_cons, List.sum_cons, hq]
    omega
/-- **A right proof proves at most the fewest loads.** -/
theorem proof_least {rs : List Rg} {L : Nat} {ws : List Rg} (hr : RsOk rs) (hL : 1 ≤ L ∧ L ≤ 10) (he : proofE (L : Int) rs ws = 0) : 0 ≤ proofV (L : Int) rs ws ∧ proofV (L : Int) rs ws ≤ LA rs L 101 := by
  unfold proofV
  rw [if_pos he]
  unfold proofE at he
  rw [if_pos (yard_of (by omega) hr)] at he
  have h0 : ∀ l : List Rg, 0 ≤ (l.map (needP (L : Int) rs)).sum := fun l => by
    induction l with
    | nil => simp
    | cons a l ih => rw [List.map_cons, List.sum_cons]; have := need_nonneg rs L hL.1 a; omega
  refine ⟨h0 ws, ?_⟩
  split at he
  · cases he
  split at he
  · cases he
  rename_i h1 h2
  split at he
  · rename_i h3
    obtain ⟨v, hv, _, hm⟩ := la_chain hr hL.1
    obtain ⟨u, hu, hc⟩ := sep_chain hr hL.1 ws (-1) 0 (by omega) (fun r hrr => by
      have h4 : badR r = false := by
        cases hb : badR r with
        | false => rfl
        | true => exact absurd (List.any_eq_true.2 ⟨r, hrr, hb⟩) h2
      unfold badR at h4
      rw [Bool.not_eq_false', win_alt] at h4
      simp at h4
      omega) h3 (.nil _)
    have h5 := hm u hc
    rw [hv]
    omega
  · cases he
/-- The error of a proof that is short enough. -/
theorem proof_err {rs : List Rg} {L : Int} {ws : List Rg} (hy : yardE L rs = 0) (hw : ws.length ≤ 10) : proofE L rs ws = 0 ∨ proofE L rs ws = 3 ∨ proofE L rs ws = 16 := by
  unfold proofE
  rw [if_pos hy, if_neg (by omega)]
  split
  · exact .inr (.inl rfl)
  · split
    · exact .inl rfl
    · exact .inr (.inr rfl)
end Go.Proofs.Ytbbdlebmagknmaa
