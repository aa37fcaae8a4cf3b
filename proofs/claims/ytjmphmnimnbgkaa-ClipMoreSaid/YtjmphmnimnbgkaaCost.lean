/- clip.Cost, where the ribbon and the kinds are valid: what a fault costs, or the error. -/
import Derived.Test.YtjmphmnimnbgkaaConcat
import Derived.Test.YtjmphmnimnbgkaaCheckCuts
namespace Go.Proofs.Ytjmphmnimnbgkaa
open Go.RowKit Go.Shelf

def TwoSl (b o1 n1 c1 o2 n2 c2 : Nat) (v : Value) (W : World) : Prop := ∃ g, v = .slice (some ⟨g, 0, none⟩) 2 2 ∧ g < W.heap.size ∧ W.cell? ⟨g, 0, none⟩ = some (.slice (some ⟨b, o1, none⟩) n1 c1) ∧ W.cell? ⟨g, 1, none⟩ = some (.slice (some ⟨b, o2, none⟩) n2 c2)
theorem TwoSl.stab {b o1 n1 c1 o2 n2 c2 : Nat} : ∀ v W W', Gr W W' → TwoSl b o1 n1 c1 o2 n2 c2 v W → TwoSl b o1 n1 c1 o2 n2 c2 v W' := fun _ _ _ hG ⟨g, h1, h2, h3, h4⟩ =>
  ⟨g, h1, by have := hG.size; omega, (hG.cell (p := ⟨g, 0, none⟩) h2).trans h3, (hG.cell (p := ⟨g, 1, none⟩) h2).trans h4⟩
def IsInts (n : Nat) (xs : List Int) (v : Value) (W : World) : Prop := ∃ G c, v = .slice G n c ∧ Sl 1 encI W W.heap.size G n c xs
theorem IsInts.stab {n : Nat} {xs : List Int} : ∀ v W W', Gr W W' → IsInts n xs v W → IsInts n xs v W' := fun _ _ _ hG ⟨G, c, h1, h2⟩ => ⟨G, c, h1, h2.later hG⟩
def IsRib (L n : Nat) (xs : List Int) (v : Value) (W : World) : Prop := ∃ G c, v = .agg #[.int .i64 L, .slice G n c] ∧ Sl 1 encI W W.heap.size G n c xs
theorem IsRib.stab {L n : Nat} {xs : List Int} : ∀ v W W', Gr W W' → IsRib L n xs v W → IsRib L n xs v W' := fun _ _ _ hG ⟨G, c, h1, h2⟩ => ⟨G, c, h1, h2.later hG⟩
def IsTab (L : Nat) (xs : List Int) (ks : List Kd) (v : Value) (W : World) : Prop := ∃ T, v = .pointer (some ⟨T, 0, none⟩) ∧ T < W.heap.size ∧ W.cell? ⟨T, 28 + L, none⟩ = some (.int .i64 (aheadAt L (Fst xs L) ks L L))
theorem IsTab.stab {L : Nat} {xs : List Int} {ks : List Kd} : ∀ v W W', Gr W W' → IsTab L xs ks v W → IsTab L xs ks v W' := fun _ _ _ hG ⟨T, h1, h2, h3⟩ => ⟨T, h1, by have := hG.size; omega, (hG.cell (p := ⟨T, 28 + L, none⟩) h2).trans h3⟩

/-- The faults without one. -/
def lessF (fs : List Int) (f : Nat) : List Int := fs.take f ++ fs.drop (f + 1)
def costP (L : Nat) (fs : List Int) (ks : List Kd) (f : Int) : Int × Int :=
  if inR 0 ((fs.length : Int) - 1) f then (aheadAt L (Fst (lessF fs f.toNat) L) ks L L - aheadAt L (Fst fs L) ks L L, 0) else (0, 2)

set_option maxRecDepth 100000 in
set_option maxHeartbeats 2000000 in
theorem Cost_ok (L : Nat) (FA : Option Addr) (fn fc : Nat) (fs : List Int) (KA : Option Addr) (kc : Nat) (ks : List Kd) (f : Int) (w : World) (hfs : Sl 1 encI w w.heap.size FA fn fc fs) (hks : Sl 3 encK w w.heap.size KA ks.length kc ks)
    (he : rkE L fs ks = 0) (hfl : fn ≤ 24) :
    Calls Try.prog 36 #[.agg #[.int .i64 L, .slice FA fn fc], .slice KA ks.length kc, .int .i64 f] w fun e w' => e = .returned (.tuple #[.int .i64 (costP L fs ks f).1, .int .i64 (costP L fs ks f).2]) ∧ Below w.heap.size w w' := by
  have ho := Lib.hid (fun W hb => open_ok L FA fn fc fs KA kc ks W (hfs.later (w' := W) hb) (hks.later hb) he)
  have hcl := hfs.len
  have hbig := hfs.big
  have hcap := hfs.cap
  have Hfs := Lib.hid hfs
  have Hks := Lib.hid hks
  obtain ⟨r, hr⟩ : ∃ r, costP L fs ks f = r := ⟨_, rfl⟩
  rw [hr]
  have HR := Lib.hid hr
  clear hfs hks he hr
  go_enter Try.func36, Try.ntmps36
  go_wp2_with fail
  refine (ho.out _ (balloc (brefl w) _)).mono ?_
  rintro e w1 ⟨T, rfl, hb1, hT⟩
  have hB1 := Below.later (balloc (brefl w) _) hb1
  have k0 : w1.cell? ⟨w.heap.size, 0, none⟩ = some (.int .i64 L) := (hb1.cell (p := ⟨w.heap.size, 0, none⟩) (by simp)).trans (by go_simp)
  have k1 : w1.cell? ⟨w.heap.size, 1, none⟩ = some (.slice FA fn fc) := (hb1.cell (p := ⟨w.heap.size, 1, none⟩) (by simp)).trans (by go_simp)
  have z0 : w.heap.size < w1.heap.size := by have := hb1.size; simp at this; omega
  have HB1 := Lib.hid hB1
  have HT := Lib.hid hT
  clear hB1 hb1 hT
  go_wp2_with fail
  refine (within_one 0 ((fn : Int) - 1) f w1.heap.size _ (by simp) (by go_simp)).mono ?_
  rintro e w2 ⟨rfl, hb2⟩
  have hG2 : Gr w1 w2 := Below.later (balloc (brefl w1) _) hb2
  have k0' := (hG2.cell (p := ⟨w.heap.size, 0, none⟩) z0).trans k0
  have k1' := (hG2.cell (p := ⟨w.heap.size, 1, none⟩) z0).trans k1
  have z0' : w.heap.size < w2.heap.size := by have := hG2.size; omega
  have HB2 := Lib.hid (Below.later HB1.out hG2)
  have HT2 := Lib.hid (HT.out.later hG2)
  clear hb2 hG2 HT HB1 k0 k1 z0
  cases h1 : inR 0 ((fn : Int) - 1) f with
  | false =>
    have HR2 := Lib.hid (show r = (0, 2) by rw [← HR.out, costP, hcl, h1]; rfl)
    clear h1
    go_wp2
    go_ret2
    exact ⟨by rw [HR2.out]; rfl, HB2.out⟩
  | true =>
    have HR2 := Lib.hid (show r = (aheadAt L (Fst (lessF fs f.toNat) L) ks L L - aheadAt L (Fst fs L) ks L L, 0) by rw [← HR.out, costP, hcl, h1]; rfl)
    rw [inR_iff] at h1
    obtain ⟨f1, f2⟩ := h1
    obtain ⟨m, rfl⟩ : ∃ m : Nat, f = m := ⟨f.toNat, by omega⟩
    obtain ⟨fb, fo, rfl, hfb, hfc⟩ := Hfs.out.at_ (by omega)
    have i1 : (0 : Int) ≤ (m : Int) := by omega
    have i2 : (m : Int) ≤ (fc : Int) := by omega
    have i3 : (m : Int) + 1 ≤ (fn : Int) := by omega
    have i4 : (0 : Int) ≤ (m : Int) + 1 := by omega
    have i5 : ((m : Int) + 1).toNat = m + 1 := by omega
    have i6 : (fn : Int) ≤ (fc : Int) := by omega
    have i7 : m ≤ fc := by omega
    have i8 : m + 1 ≤ fn := by omega
    have i9 : fn ≤ fc := by omega
    obtain ⟨o2, hif, ho2⟩ : ∃ o2, (if fc = m + 1 then (some ⟨fb, fo, none⟩ : Option Addr) else some ⟨fb, fo + (m + 1), none⟩) = some ⟨fb, o2, none⟩ ∧ (fc = m + 1 ∨ o2 = fo + (m + 1)) := by
      by_cases hq : fc = m + 1
      · exact ⟨fo, by rw [if_pos hq], .inl hq⟩
      · exact ⟨fo + (m + 1), by rw [if_neg hq], .inr rfl⟩
    have Hif := Lib.hid hif
    have Hfc := Lib.hid hfc
    clear hfc hif
    go_wp2_with fail
    refine dag 17 (by kernel_rfl) (by kernel_rfl) (.is ?_ :: .is ?_ :: .is ?_ :: .is ?_ :: .is ?_ :: .is ?_ :: .is ?_ :: .is ?_ :: .is ?_ :: .is ?_ :: .is ?_ :: .like (TwoSl fb fo m fc o2 (fn - (m + 1)) (fc - (m + 1))) :: .like (IsInts (fn - 1) (lessF fs m)) :: .like (IsRib L (fn - 1) (lessF fs m)) :: .is ?_ :: .like (IsTab L (lessF fs m) ks) :: .like (IsTab L (lessF fs m) ks) :: []) rfl ?st ?ob
    case st => repeat (first | exact stab_nil | refine stab_is ?_ | refine stab_like TwoSl.stab ?_ | refine stab_like IsInts.stab ?_ | refine stab_like IsRib.stab ?_ | refine stab_like IsTab.stab ?_)
    case ob =>
      intro env W' hG
      obtain ⟨hc, hf⟩ := bcell hG
      iterate 10 (refine obls_is ?_ ?_; unfold doesAt; go_simp; (try go_bits); refine ⟨brefl _, ?_⟩; rfl; intro K hK; go_simp; refine hK _ ?_; clear hK K)
      refine obls_is ?_ ?_
      · unfold doesAt
        go_simp
        rw [Hif.out]
        refine ⟨brefl _, ?_⟩
        rfl
      intro K hK
      go_simp
      refine hK _ ?_
      clear hK K
      refine obls_like (fun _ => ?_) ?_
      · unfold doesAt
        go_simp
        exact ⟨balloc (brefl _) _, W'.heap.size, rfl, by simp, by go_simp, by go_simp⟩
      intro K hK
      go_simp
      refine hK _ ?_
      clear hK K
      refine obls_like (fun hl => ?_) ?_
      · obtain ⟨g, hg, hg1, hg2, hg3⟩ : TwoSl fb fo m fc o2 (fn - (m + 1)) (fc - (m + 1)) (env 11) W' := hl ⟨11, .data⟩ (by simp) rfl
        have hbl := HB2.out.trans (hG.mono HB2.out.size)
        have hCO : CO W' W' g fb fo m fc o2 (fn - (m + 1)) (fc - (m + 1)) (fs.take m) (fs.drop (m + 1)) := by
          refine ⟨brefl _, hg2, hg3, fun i x hx => ?_, fun i x hx => ?_, hg1, by have := hbl.size; omega⟩
          · rw [List.getElem?_take] at hx
            split at hx
            · have := Hfc.out i x hx 0 _ rfl
              simp only [Nat.mul_one, Nat.add_zero] at this
              exact (hbl.cell (p := ⟨fb, fo + i, none⟩) hfb).trans this
            · cases hx
          · rw [List.getElem?_drop] at hx
            have hlt := (List.getElem?_eq_some_iff.1 hx).1
            rcases ho2 with h | rfl
            · omega
            · have := Hfc.out (m + 1 + i) x hx 0 _ rfl
              simp only [Nat.mul_one, Nat.add_zero] at this
              rw [show fo + (m + 1) + i = fo + (m + 1 + i) from by omega]
              exact (hbl.cell (p := ⟨fb, fo + (m + 1 + i), none⟩) hfb).trans this
        have hcc := concat_two _ _ _ _ _ _ _ _ _ _ W' hCO (by simp; omega) (by simp; omega) (by omega)
        clear hCO hbl hg2 hg3
        unfold doesAt
        go_simp
        refine hcc.mono ?_
        rintro e w3 ⟨v, rfl, hb3, hown⟩
        refine ⟨_, rfl, hb3, ?_⟩
        obtain ⟨G, c, rfl, hsl⟩ := own_sl hown
        rw [show m + (fn - (m + 1)) = fn - 1 from by omega] at hsl ⊢
        exact ⟨G, c, rfl, hsl⟩
      intro K hK
      go_simp
      refine hK _ ?_
      clear hK K
      refine obls_like (fun hl => ?_) ?_
      · obtain ⟨G, c, hE, hsl⟩ : IsInts (fn - 1) (lessF fs m) (env 12) W' := hl ⟨12, .data⟩ (by simp) rfl
        have Hsl := Lib.hid hsl
        clear hsl
        unfold doesAt
        go_simp
        exact ⟨brefl _, G, c, rfl, Hsl.out⟩
      intro K hK
      go_simp
      refine hK _ ?_
      clear hK K
      (refine obls_is ?_ ?_; unfold doesAt; go_simp; (try go_bits); refine ⟨brefl _, ?_⟩; rfl; intro K hK; go_simp; refine hK _ ?_; clear hK K)
      refine obls_like (fun hl => ?_) ?_
      · obtain ⟨G, c, hE, hsl⟩ : IsRib L (fn - 1) (lessF fs m) (env 13) W' := hl ⟨13, .data⟩ (by simp) rfl
        have hnt := newTable_any L G (fn - 1) c (lessF fs m) KA kc ks W' HT2.out.l1 HT2.out.l2 HT2.out.kok hsl (Hks.out.later (HB2.out.trans (hG.mono HB2.out.size)))
        have hL2 := HT2.out.l2
        clear hsl
        unfold doesAt
        go_simp
        refine hnt.mono ?_
        rintro e w3 ⟨T2, _, rfl, hb3, htab⟩
        exact ⟨_, rfl, hb3, T2, rfl, htab.core.lt, htab.ah L (by omega)⟩
      intro K hK
      go_simp
      refine hK _ ?_
      clear hK K
      refine obls_like (fun hl => ?_) ?_
      · have hE : IsTab L (lessF fs m) ks (env 15) W' := hl ⟨15, .data⟩ (by simp) rfl
        unfold doesAt
        go_simp
        first | exact ⟨brefl _, hE⟩ | exact brefl _
      intro K hK
      go_simp
      refine hK _ ?_
      clear hK K
      refine obls_nil (fun hall => ?_)
      obtain ⟨T2, hE2, hT2l, hT2c⟩ : IsTab L (lessF fs m) ks (env 16) W' := hall 16 _ rfl
      have c0' := (hc w.heap.size 0 z0').trans k0'
      have t0' := (hG.cell (p := ⟨T, 28 + L, none⟩) HT2.out.tab.core.lt).trans (HT2.out.tab.ah L (by have := HT2.out.l2; omega))
      have zT := HT2.out.tab.core.lt
      have zW := hG.size
      have zT' : T < W'.heap.size := by omega
      have zw' : w.heap.size < W'.heap.size := by omega
      have hL2 := HT2.out.l2
      have j0 : (L : Int) < 25 := by omega
      have ba := aheadAt_bd (L := L) (F := Fst (lessF fs m) L) HT2.out.kok L L
      have bb := aheadAt_bd (L := L) (F := Fst fs L) HT2.out.kok L L
      obtain ⟨ba1, ba2⟩ := ba
      obtain ⟨bb1, bb2⟩ := bb
      have HG := Lib.hid (HB2.out.trans (hG.mono HB2.out.size))
      rw [Int.toNat_natCast] at HR2
      rw [hE2]
      generalize aheadAt L (Fst (lessF fs m) L) ks L L = A1 at *
      generalize aheadAt L (Fst fs L) ks L L = A2 at *
      clear hall hc hf hG hE2 k0' k1' z0'
      go_wp2_with fail
      refine dag 17 (by kernel_rfl) (by kernel_rfl) (.is ?_ :: .is ?_ :: .is ?_ :: .is ?_ :: .is ?_ :: .is ?_ :: .is ?_ :: .is ?_ :: .is ?_ :: .is ?_ :: .is ?_ :: .is ?_ :: .is ?_ :: .is ?_ :: .is ?_ :: .is ?_ :: .is ?_ :: []) rfl ?st2 ?ob2
      case st2 => simp [Spec.ok]
      case ob2 =>
        intro env2 W5 hG5
        obtain ⟨hc, hf⟩ := bcell hG5
        repeat (refine obls_is ?_ ?_; unfold doesAt; go_simp; (try go_bits); refine ⟨brefl _, ?_⟩; rfl; intro K hK; go_simp; refine hK _ ?_; clear hK K)
        refine obls_nil (fun _ => ?_)
        go_wp2
        go_ret2
        exact ⟨by rw [HR2.out]; rfl, HG.out.trans (hG5.mono HG.out.size)⟩
end Go.Proofs.Ytjmphmnimnbgkaa
