/- crossbandlaw02.parts: whether cuts part a place. -/
import Derived.Test.YtjmphmnimnbgkaaGiven
import Derived.BigRegion
namespace Go.Proofs.Ytjmphmnimnbgkaa
open Go.RowKit Go.Shelf

/-- A sheet goes over a place. -/
def overS (ks : List Kd) (p : Nat) (s : Sh) : Bool := decide (s.f < p) && decide ((p : Int) < s.f + (ks.getD s.k.toNat ⟨0, 0, 0⟩).w)
set_option maxRecDepth 100000 in
set_option maxHeartbeats 4000000 in
theorem parts_any (KA : Option Addr) (kc : Nat) (ks : List Kd) (CA : Option Addr) (cn cc : Nat) (cuts : List Sh) (p : Nat) (w : World) (hks : Sl 3 encK w w.heap.size KA ks.length kc ks) (hC : Sl 2 encS w w.heap.size CA cn cc cuts) (hko : KOk ks) (_hp : p ≤ 24) (hcn : cn ≤ 24) (hval : ∀ s ∈ cuts, ∃ (f k : Nat) (x : Kd), s = ⟨f, k⟩ ∧ ks[k]? = some x ∧ f ≤ 24) :
    Calls Try.prog 44 #[.slice KA ks.length kc, .slice CA cn cc, .int .i64 p] w fun e w' => e = .returned (.bool (!cuts.any (overS ks p))) ∧ Below w.heap.size w w' := by
  have hcl := hC.len
  have Hks := Lib.hid hks
  have HC := Lib.hid hC
  have Hk := Lib.hid hko
  have Hval := Lib.hid hval
  obtain ⟨pz, hpz⟩ : ∃ pz : Int, (p : Int) = pz := ⟨_, rfl⟩
  rw [hpz]
  obtain ⟨r, hr⟩ : ∃ r, (!cuts.any (overS ks p)) = r := ⟨_, rfl⟩
  rw [hr]
  have Hr := Lib.hid hr
  have Hpz := Lib.hid hpz
  clear hks hC hko hval hr hpz
  go_enter Try.func44, Try.ntmps44
  go_wp2_with fail
  refine loop_n (fun m a W => a.defers = [] ∧ ∃ i : Nat, i + m = cn ∧ Below w.heap.size w W ∧ (∀ j s, j < i → cuts[j]? = some s → overS ks p s = false) ∧ Fits (some (.slice KA ks.length kc) :: some (.slice CA cn cc) :: some (.int .i64 pz) :: none :: none :: none :: none :: some (.int .i64 (i : Nat)) :: none :: none :: none :: none :: none :: none :: none :: none :: none :: none :: none :: none :: none :: none :: none :: none :: none :: none :: none :: none :: none :: none :: none :: none :: none :: none :: none :: none :: none :: none :: none :: none :: []) a.tmps.toList) cn ?_ ?_
  · refine ⟨rfl, 0, by omega, brefl _, fun j s hj => by omega, ?_⟩
    repeat (first | exact fits_nil | refine fits_none ?_ | refine fits_some ?_)
  intro m a W hI K hK
  obtain ⟨hds, i, him, hB, hno, hfit⟩ := hI
  obtain ⟨g, hg⟩ := fits_act hfit
  rw [hds] at hg
  subst hg
  clear hfit hds
  simp only [fillP, Nat.reduceAdd]
  by_cases hlt : i < cn
  · have i1 : (i : Int) < (cn : Int) := by omega
    have i2 : (0 : Int) ≤ (i : Int) := by omega
    have i3 : IntKind.i64.wrap ((i : Int) + 1) = (i : Int) + 1 := by rw [IntKind.wrap_i64]; omega
    obtain ⟨cb, co, s, rfl, hcb, hs, s0, s1⟩ := (HC.out.later hB).ltS hlt
    obtain ⟨f, k, x, rfl, hx, hf24⟩ := Hval.out s (List.mem_of_getElem? hs)
    have hkl : k < ks.length := (List.getElem?_eq_some_iff.1 hx).1
    obtain ⟨kb, ko, x', rfl, hkb, hx', q0, _, _⟩ := (Hks.out.later hB).ltK hkl
    rw [hx] at hx'
    cases hx'
    have hxb := Hk.out.bd hx
    obtain ⟨wd, hwd⟩ : ∃ wd : Nat, x.w = wd := ⟨x.w.toNat, by omega⟩
    have hgd : ks.getD k ⟨0, 0, 0⟩ = x := by simp [List.getD, hx]
    obtain ⟨fz, hfz⟩ : ∃ fz : Int, (f : Int) = fz := ⟨_, rfl⟩
    obtain ⟨wz, hwz⟩ : ∃ wz : Int, x.w = wz := ⟨_, rfl⟩
    have hov : overS ks p ⟨f, k⟩ = (decide (fz < pz) && decide (pz < fz + wz)) := by
      unfold overS
      rw [Int.toNat_natCast, hgd, hwz, ← hfz, ← Hpz.out]
    rw [hwz] at q0
    simp only [hfz] at s0
    have hfz2 : 0 ≤ fz ∧ fz ≤ 24 ∧ 1 ≤ wz ∧ wz ≤ 24 := by omega
    have j0 : (0 : Int) ≤ (k : Int) := by omega
    have j1 : (k : Int) < (ks.length : Int) := by omega
    have j2 : IntKind.i64.wrap (fz + wz) = fz + wz := by rw [IntKind.wrap_i64]; omega
    have hstep : overS ks p ⟨f, k⟩ = false → ∀ j s, j < i + 1 → cuts[j]? = some s → overS ks p s = false := fun h j s' hj hs' => by
      by_cases e : j = i
      · subst e; rw [hs] at hs'; cases hs'; exact h
      · exact hno j s' (by omega) hs'
    have hyes : overS ks p ⟨f, k⟩ = true → r = false := fun h => by
      rw [← Hr.out, Bool.not_eq_false', List.any_eq_true]
      exact ⟨_, List.mem_of_getElem? hs, h⟩
    have HB := Lib.hid hB
    clear hs hx hwd hgd hxb hB hno hfz hwz hfz2
    by_cases h1 : fz < pz
    · have d1 : decide (fz < pz) = true := by simpa using h1
      by_cases h2 : pz < fz + wz
      · have d2 : decide (pz < fz + wz) = true := by simpa using h2
        have HE := Lib.hid (hyes (by rw [hov]; simp [h1, h2]))
        clear hov hstep hyes h1 h2 hK
        go_wp2_with fail
        refine dag 26 (by kernel_rfl) (by kernel_rfl) (.is ?_ :: .is ?_ :: .is ?_ :: .is ?_ :: .is ?_ :: .is ?_ :: .is ?_ :: .is ?_ :: .is ?_ :: .is ?_ :: .is ?_ :: .is ?_ :: .is ?_ :: .is ?_ :: .is ?_ :: .is ?_ :: .is ?_ :: .is ?_ :: .is ?_ :: .is ?_ :: .is ?_ :: .is ?_ :: .is ?_ :: .is ?_ :: .is ?_ :: .is ?_ :: []) rfl ?st1 ?ob1
        case st1 => simp [Spec.ok]
        case ob1 =>
          intro env W' hG
          obtain ⟨hc, hf⟩ := bcell hG
          repeat (refine obls_is ?_ ?_; unfold doesAt; go_simp; (try go_bits); (first | (refine ⟨brefl _, ?_⟩; rfl) | rfl); intro K hK; go_simp; refine hK _ ?_; clear hK K)
          refine obls_nil (fun _ => ?_)
          have HB2 := Lib.hid (Below.later HB.out hG)
          clear hc hf hG
          go_wp2
          go_ret
          exact ⟨ret_bool HE.out.symm, HB2.out⟩
      · have d2 : decide (pz < fz + wz) = false := by simpa using h2
        have Hst := Lib.hid (hstep (by rw [hov]; simp [h2]))
        clear hov hstep hyes h1 h2
        go_wp2_with fail
        refine dag 26 (by kernel_rfl) (by kernel_rfl) (.is ?_ :: .is ?_ :: .is ?_ :: .is ?_ :: .is ?_ :: .is ?_ :: .is ?_ :: .is ?_ :: .is ?_ :: .is ?_ :: .is ?_ :: .is ?_ :: .is ?_ :: .is ?_ :: .is ?_ :: .is ?_ :: .is ?_ :: .is ?_ :: .is ?_ :: .is ?_ :: .is ?_ :: .is ?_ :: .is ?_ :: .is ?_ :: .is ?_ :: .is ?_ :: []) rfl ?st2 ?ob2
        case st2 => simp [Spec.ok]
        case ob2 =>
          intro env W' hG
          obtain ⟨hc, hf⟩ := bcell hG
          repeat (refine obls_is ?_ ?_; unfold doesAt; go_simp; (try go_bits); (first | (refine ⟨brefl _, ?_⟩; rfl) | rfl); intro K hK; go_simp; refine hK _ ?_; clear hK K)
          refine obls_nil (fun _ => ?_)
          have HB2 := Lib.hid (Below.later HB.out hG)
          clear hc hf hG
          go_wp2
          refine hK _ _ (m - 1) (by omega) ⟨rfl, i + 1, by omega, HB2.out, Hst.out, ?_⟩
          repeat (first | exact fits_nil | refine fits_none ?_ | refine fits_some ?_)
    · have d1 : decide (fz < pz) = false := by simpa using h1
      have Hst := Lib.hid (hstep (by rw [hov]; simp [h1]))
      clear hov hstep hyes h1
      go_wp2_with fail
      refine dag 26 (by kernel_rfl) (by kernel_rfl) (.is ?_ :: .is ?_ :: .is ?_ :: .is ?_ :: .is ?_ :: .is ?_ :: .is ?_ :: .is ?_ :: .is ?_ :: .is ?_ :: .is ?_ :: .is ?_ :: .is ?_ :: .is ?_ :: .is ?_ :: .is ?_ :: .is ?_ :: .is ?_ :: .is ?_ :: .is ?_ :: .is ?_ :: .is ?_ :: .is ?_ :: .is ?_ :: .is ?_ :: .is ?_ :: []) rfl ?st3 ?ob3
      case st3 => simp [Spec.ok]
      case ob3 =>
        intro env W' hG
        obtain ⟨hc, hf⟩ := bcell hG
        repeat (refine obls_is ?_ ?_; unfold doesAt; go_simp; (try go_bits); (first | (refine ⟨brefl _, ?_⟩; rfl) | rfl); intro K hK; go_simp; refine hK _ ?_; clear hK K)
        refine obls_nil (fun _ => ?_)
        have HB2 := Lib.hid (Below.later HB.out hG)
        clear hc hf hG
        go_wp2
        refine hK _ _ (m - 1) (by omega) ⟨rfl, i + 1, by omega, HB2.out, Hst.out, ?_⟩
        repeat (first | exact fits_nil | refine fits_none ?_ | refine fits_some ?_)
  · obtain rfl : i = cn := by omega
    have HE := Lib.hid (show r = true by
      rw [← Hr.out, Bool.not_eq_true', List.any_eq_false]
      intro s hs
      obtain ⟨j, hj⟩ := List.getElem?_of_mem hs
      rw [hno j s (by have := (List.getElem?_eq_some_iff.1 hj).1; omega) hj]
      simp)
    have HB := Lib.hid hB
    clear hno hK hB
    go_wp2
    go_ret
    exact ⟨ret_bool HE.out.symm, HB.out⟩
end Go.Proofs.Ytjmphmnimnbgkaa
