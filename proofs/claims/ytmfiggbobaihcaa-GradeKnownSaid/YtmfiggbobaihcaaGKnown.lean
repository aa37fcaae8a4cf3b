/- GradeKnown: the examples of the chapter hold. -/
import Derived.Test.YtmfiggbobaihcaaGWorks
namespace Go.Proofs.Ytmfiggbobaihcaa
open Go.RowKit Go.Shelf

set_option maxRecDepth 100000 in
set_option maxHeartbeats 16000000 in
theorem known_any (w : World) : Calls Try.prog 15 #[] w fun e w' => e = .returned (.bool true) ∧ Below w.heap.size w w' := by
  go_enter Try.func15, Try.ntmps15
  go_wp2_with fail
  refine (example_any _ 3 3 exA _ (lit_sl (xs := exA) (n := 3) (Blk.new _ 2 _) (by simp) rfl (by omega))).mono ?_
  rintro e U1 ⟨P1, O1, d1, rfl, hb, hsh⟩
  have hba := Below.later (balloc (brefl _) _) hb
  have H1 := Lib.hid hsh
  have HW := Lib.hid (Bel.mk hba)
  clear hb hsh hba
  go_wp2_with fail
  refine (example_any _ 3 3 exB _ (lit_sl (xs := exB) (n := 3) (Blk.new _ 2 _) (by simp) rfl (by omega))).mono ?_
  rintro e U2 ⟨P2, O2, d2, rfl, hb, hsh⟩
  have hba := Below.later (balloc (brefl _) _) hb
  have HWn := Lib.hid (HW.out.later hba)
  have H1n := Lib.hid (H1.out.later hba)
  clear HW H1
  have HW := HWn
  have H1 := H1n
  clear HWn H1n
  have H2 := Lib.hid hsh
  clear hb hsh hba
  go_wp2_with fail
  refine (example_any _ 3 3 exC _ (lit_sl (xs := exC) (n := 3) (Blk.new _ 2 _) (by simp) rfl (by omega))).mono ?_
  rintro e U3 ⟨P3, O3, d3, rfl, hb, hsh⟩
  have hba := Below.later (balloc (brefl _) _) hb
  have HWn := Lib.hid (HW.out.later hba)
  have H1n := Lib.hid (H1.out.later hba)
  have H2n := Lib.hid (H2.out.later hba)
  clear HW H1 H2
  have HW := HWn
  have H1 := H1n
  have H2 := H2n
  clear HWn H1n H2n
  have H3 := Lib.hid hsh
  clear hb hsh hba
  go_wp2_with fail
  have hb := balloc (balloc (balloc (brefl U3) (.cells #[.slice (some ⟨w.heap.size, 0, none⟩) 3 3, .slice P1 3 3, .slice O1 3 d1] 25)) (.cells #[.slice (some ⟨U1.heap.size, 0, none⟩) 3 3, .slice P2 3 3, .slice O2 3 d2] 25)) (.cells #[.slice (some ⟨U2.heap.size, 0, none⟩) 3 3, .slice P3 3 3, .slice O3 3 d3] 25)
  have hb1 := ((Blk.new U3 25 #[.slice (some ⟨w.heap.size, 0, none⟩) 3 3, .slice P1 3 3, .slice O1 3 d1]).alloc (.cells #[.slice (some ⟨U1.heap.size, 0, none⟩) 3 3, .slice P2 3 3, .slice O2 3 d2] 25)).alloc (.cells #[.slice (some ⟨U2.heap.size, 0, none⟩) 3 3, .slice P3 3 3, .slice O3 3 d3] 25)
  have hb2 := (Blk.new (U3.alloc (.cells #[.slice (some ⟨w.heap.size, 0, none⟩) 3 3, .slice P1 3 3, .slice O1 3 d1] 25)) 25 #[.slice (some ⟨U1.heap.size, 0, none⟩) 3 3, .slice P2 3 3, .slice O2 3 d2]).alloc (.cells #[.slice (some ⟨U2.heap.size, 0, none⟩) 3 3, .slice P3 3 3, .slice O3 3 d3] 25)
  have hb3 := Blk.new ((U3.alloc (.cells #[.slice (some ⟨w.heap.size, 0, none⟩) 3 3, .slice P1 3 3, .slice O1 3 d1] 25)).alloc (.cells #[.slice (some ⟨U1.heap.size, 0, none⟩) 3 3, .slice P2 3 3, .slice O2 3 d2] 25)) 25 #[.slice (some ⟨U2.heap.size, 0, none⟩) 3 3, .slice P3 3 3, .slice O3 3 d3]
  rw [World.size_alloc] at hb2
  rw [World.size_alloc, World.size_alloc] at hb3
  have HA := Lib.hid (KS.mk hb1 (H1.out.later hb))
  have HB := Lib.hid (KS.mk hb2 (H2.out.later hb))
  have HC := Lib.hid (KS.mk hb3 (H3.out.later hb))
  have HW2 := Lib.hid (HW.out.later hb)
  clear hb hb1 hb2 hb3 H1 H2 H3 HW
  have HW := HW2
  clear HW2
  generalize (((U3.alloc (.cells #[.slice (some ⟨w.heap.size, 0, none⟩) 3 3, .slice P1 3 3, .slice O1 3 d1] 25)).alloc (.cells #[.slice (some ⟨U1.heap.size, 0, none⟩) 3 3, .slice P2 3 3, .slice O2 3 d2] 25)).alloc (.cells #[.slice (some ⟨U2.heap.size, 0, none⟩) 3 3, .slice P3 3 3, .slice O3 3 d3] 25)) = W0 at *
  generalize (some ⟨w.heap.size, 0, none⟩ : Option Addr) = A1 at *
  generalize (some ⟨U1.heap.size, 0, none⟩ : Option Addr) = A2 at *
  generalize (some ⟨U2.heap.size, 0, none⟩ : Option Addr) = A3 at *
  generalize U3.heap.size = B1 at *
  obtain ⟨B2, hB2⟩ : ∃ B2, B1 + 1 = B2 := ⟨_, rfl⟩
  rw [hB2] at HB HC ⊢
  obtain ⟨B3, hB3⟩ : ∃ B3, B2 + 1 = B3 := ⟨_, rfl⟩
  rw [hB3] at HC ⊢
  clear hB2 hB3
  clear U1 U2 U3
  have a0 := HA.out.b.cell 0
  have a1 := HA.out.b.cell 1
  have a2 := HA.out.b.cell 2
  have a3 := HA.out.b.lt
  have b0 := HB.out.b.cell 0
  have b1 := HB.out.b.cell 1
  have b2 := HB.out.b.cell 2
  have b3 := HB.out.b.lt
  have c0 := HC.out.b.cell 0
  have c1 := HC.out.b.cell 1
  have c2 := HC.out.b.cell 2
  have c3 := HC.out.b.lt
  refine dag 15 (by kernel_rfl) (by kernel_rfl) (.is ?_ :: .like (IsInts 3 [2, 0, 0]) :: .like (IsInts 3 [2, 0, 0]) :: .like (IsInts 3 [0, 4, 0]) :: .like (IsInts 3 [0, 4, 0]) :: .like (IsInts 3 [0, 0, 4]) :: .like (IsInts 3 [0, 0, 4]) :: .like (IsRows [[2, 0, 0], [0, 4, 0], [0, 0, 4]]) :: .like (IsRows [[2, 0, 0], [0, 4, 0], [0, 0, 4]]) :: .is (.tuple #[.int .i64 46, .int .i64 0]) :: .is ?_ :: .is ?_ :: .is ?_ :: .is ?_ :: .is ?_ :: []) rfl ?st1 ?ob1
  case st1 => repeat (first | exact stab_nil | refine stab_is ?_ | refine stab_like IsInts.stab ?_ | refine stab_like IsRows.stab ?_)
  case ob1 =>
  intro env1 V1 hG
  obtain ⟨hc, hf⟩ := bcell hG
  have HG := Lib.hid hG
  clear hG
  iterate 1 (refine obls_is ?_ ?_; unfold doesAt; go_simp; (try go_bits); (first | (refine ⟨brefl _, ?_⟩; rfl) | rfl); intro K hK; go_simp; refine hK _ ?_; clear hK K)
  refine obls_like (fun _ => ?_) ?_
  · unfold doesAt
    go_simp
    exact ⟨balloc (brefl _) _, _, _, rfl, lit_sl (xs := [2, 0, 0]) (Blk.new _ _ _) (by simp) rfl (by omega)⟩
  intro K hK
  go_simp
  refine hK _ ?_
  clear hK K
  refine obls_like (fun hl => ?_) ?_
  · obtain ⟨G, c, hE, hsl⟩ : IsInts 3 [2, 0, 0] (env1 1) V1 := hl ⟨1, .data⟩ (by simp) rfl
    have Hsl := Lib.hid hsl
    clear hsl
    unfold doesAt
    go_simp
    refine (longs_any G 3 c V1).mono ?_
    rintro e w3 ⟨rfl, hb3⟩
    exact ⟨_, rfl, hb3, G, c, rfl, Hsl.out.later hb3⟩
  intro K hK
  go_simp
  refine hK _ ?_
  clear hK K
  refine obls_like (fun _ => ?_) ?_
  · unfold doesAt
    go_simp
    exact ⟨balloc (brefl _) _, _, _, rfl, lit_sl (xs := [0, 4, 0]) (Blk.new _ _ _) (by simp) rfl (by omega)⟩
  intro K hK
  go_simp
  refine hK _ ?_
  clear hK K
  refine obls_like (fun hl => ?_) ?_
  · obtain ⟨G, c, hE, hsl⟩ : IsInts 3 [0, 4, 0] (env1 3) V1 := hl ⟨3, .data⟩ (by simp) rfl
    have Hsl := Lib.hid hsl
    clear hsl
    unfold doesAt
    go_simp
    refine (longs_any G 3 c V1).mono ?_
    rintro e w3 ⟨rfl, hb3⟩
    exact ⟨_, rfl, hb3, G, c, rfl, Hsl.out.later hb3⟩
  intro K hK
  go_simp
  refine hK _ ?_
  clear hK K
  refine obls_like (fun _ => ?_) ?_
  · unfold doesAt
    go_simp
    exact ⟨balloc (brefl _) _, _, _, rfl, lit_sl (xs := [0, 0, 4]) (Blk.new _ _ _) (by simp) rfl (by omega)⟩
  intro K hK
  go_simp
  refine hK _ ?_
  clear hK K
  refine obls_like (fun hl => ?_) ?_
  · obtain ⟨G, c, hE, hsl⟩ : IsInts 3 [0, 0, 4] (env1 5) V1 := hl ⟨5, .data⟩ (by simp) rfl
    have Hsl := Lib.hid hsl
    clear hsl
    unfold doesAt
    go_simp
    refine (longs_any G 3 c V1).mono ?_
    rintro e w3 ⟨rfl, hb3⟩
    exact ⟨_, rfl, hb3, G, c, rfl, Hsl.out.later hb3⟩
  intro K hK
  go_simp
  refine hK _ ?_
  clear hK K
  refine obls_like (fun hl => ?_) ?_
  · obtain ⟨G1, c1, hE1, hs1⟩ : IsInts 3 [2, 0, 0] (env1 2) V1 := hl ⟨2, .data⟩ (by simp) rfl
    obtain ⟨G2, c2, hE2, hs2⟩ : IsInts 3 [0, 4, 0] (env1 4) V1 := hl ⟨4, .data⟩ (by simp) rfl
    obtain ⟨G3, c3, hE3, hs3⟩ : IsInts 3 [0, 0, 4] (env1 6) V1 := hl ⟨6, .data⟩ (by simp) rfl
    have hbn := Blk.new V1 22 #[.slice G1 3 c1, .slice G2 3 c2, .slice G3 3 c3]
    have hba := balloc (brefl V1) (.cells #[.slice G1 3 c1, .slice G2 3 c2, .slice G3 3 c3] 22)
    have Hr := Lib.hid (rows_three hbn (hs1.later hba) (hs2.later hba) (hs3.later hba))
    have Hba := Lib.hid hba
    clear hbn hba hs1 hs2 hs3
    unfold doesAt
    simp only [hE1, hE2, hE3]
    go_simp
    exact ⟨Hba.out, _, _, _, rfl, Hr.out, rfl⟩
  intro K hK
  go_simp
  refine hK _ ?_
  clear hK K
  refine obls_like (fun hl => ?_) ?_
  · obtain ⟨G, c, L, hE, hfl, hX⟩ : IsRows [[2, 0, 0], [0, 4, 0], [0, 0, 4]] (env1 7) V1 := hl ⟨7, .data⟩ (by simp) rfl
    have Hfl := Lib.hid hfl
    have HX := Lib.hid hX
    clear hfl hX
    unfold doesAt
    go_simp
    refine (rows_call G 3 c V1).mono ?_
    rintro e w3 ⟨rfl, hb3⟩
    exact ⟨_, rfl, hb3, G, c, L, rfl, Hfl.out.later hb3, HX.out⟩
  intro K hK
  go_simp
  refine hK _ ?_
  clear hK K
  refine obls_isL (fun hl => ?_) ?_
  · obtain ⟨G, c, L, hE, hfl, hX⟩ : IsRows [[2, 0, 0], [0, 4, 0], [0, 0, 4]] (env1 8) V1 := hl ⟨8, .data⟩ (by simp) rfl
    have Hfl := Lib.hid hfl
    have HX := Lib.hid hX
    clear hfl hX
    unfold doesAt
    go_simp
    refine (t_fill (HA.out.later HG.out) x_f5 Hfl.out HX.out).mono ?_
    rintro e w3 ⟨rfl, hb3⟩
    exact ⟨rfl, hb3⟩
  intro K hK
  go_simp
  refine hK _ ?_
  clear hK K
  repeat (refine obls_is ?_ ?_; unfold doesAt; go_simp; (try go_bits); (first | (refine ⟨brefl _, ?_⟩; rfl) | rfl); intro K hK; go_simp; refine hK _ ?_; clear hK K)
  refine obls_nil (fun _ => ?_)
  clear a0 a1 a2 a3 b0 b1 b2 b3 c0 c1 c2 c3
  have HWn := Lib.hid (HW.out.later HG.out)
  have HAn := Lib.hid (HA.out.later HG.out)
  have HBn := Lib.hid (HB.out.later HG.out)
  have HCn := Lib.hid (HC.out.later HG.out)
  clear HW HA HB HC
  have HW := HWn
  have HA := HAn
  have HB := HBn
  have HC := HCn
  clear HWn HAn HBn HCn
  clear hc hf HG
  have a0 := HA.out.b.cell 0
  have a1 := HA.out.b.cell 1
  have a2 := HA.out.b.cell 2
  have a3 := HA.out.b.lt
  have b0 := HB.out.b.cell 0
  have b1 := HB.out.b.cell 1
  have b2 := HB.out.b.cell 2
  have b3 := HB.out.b.lt
  have c0 := HC.out.b.cell 0
  have c1 := HC.out.b.cell 1
  have c2 := HC.out.b.cell 2
  have c3 := HC.out.b.lt
  go_wp2_with fail
  refine (t_short HB.out x_s3).mono ?_
  rintro e U2 ⟨rfl, hb⟩
  clear a0 a1 a2 a3 b0 b1 b2 b3 c0 c1 c2 c3
  have HWn := Lib.hid (HW.out.later hb)
  have HAn := Lib.hid (HA.out.later hb)
  have HBn := Lib.hid (HB.out.later hb)
  have HCn := Lib.hid (HC.out.later hb)
  clear HW HA HB HC
  have HW := HWn
  have HA := HAn
  have HB := HBn
  have HC := HCn
  clear HWn HAn HBn HCn
  clear hb
  have a0 := HA.out.b.cell 0
  have a1 := HA.out.b.cell 1
  have a2 := HA.out.b.cell 2
  have a3 := HA.out.b.lt
  have b0 := HB.out.b.cell 0
  have b1 := HB.out.b.cell 1
  have b2 := HB.out.b.cell 2
  have b3 := HB.out.b.lt
  have c0 := HC.out.b.cell 0
  have c1 := HC.out.b.cell 1
  have c2 := HC.out.b.cell 2
  have c3 := HC.out.b.lt
  go_wp2_with fail
  refine (t_spent HA.out rfl x_fil.1).mono ?_
  rintro e U3 ⟨g1, rfl, hb, hsl⟩
  clear a0 a1 a2 a3 b0 b1 b2 b3 c0 c1 c2 c3
  have HWn := Lib.hid (HW.out.later hb)
  have HAn := Lib.hid (HA.out.later hb)
  have HBn := Lib.hid (HB.out.later hb)
  have HCn := Lib.hid (HC.out.later hb)
  clear HW HA HB HC
  have HW := HWn
  have HA := HAn
  have HB := HBn
  have HC := HCn
  clear HWn HAn HBn HCn
  have FS := Lib.hid hsl
  clear hb hsl
  have a0 := HA.out.b.cell 0
  have a1 := HA.out.b.cell 1
  have a2 := HA.out.b.cell 2
  have a3 := HA.out.b.lt
  have b0 := HB.out.b.cell 0
  have b1 := HB.out.b.cell 1
  have b2 := HB.out.b.cell 2
  have b3 := HB.out.b.lt
  have c0 := HC.out.b.cell 0
  have c1 := HC.out.b.cell 1
  have c2 := HC.out.b.cell 2
  have c3 := HC.out.b.lt
  go_wp2_with fail
  refine (t_least HA.out rfl x_fil.1 x_le.2).mono ?_
  rintro e U4 ⟨rfl, hb⟩
  clear a0 a1 a2 a3 b0 b1 b2 b3 c0 c1 c2 c3
  have HWn := Lib.hid (HW.out.later hb)
  have HAn := Lib.hid (HA.out.later hb)
  have HBn := Lib.hid (HB.out.later hb)
  have HCn := Lib.hid (HC.out.later hb)
  have FSn := Lib.hid (FS.out.later hb)
  clear HW HA HB HC FS
  have HW := HWn
  have HA := HAn
  have HB := HBn
  have HC := HCn
  have FS := FSn
  clear HWn HAn HBn HCn FSn
  clear hb
  have a0 := HA.out.b.cell 0
  have a1 := HA.out.b.cell 1
  have a2 := HA.out.b.cell 2
  have a3 := HA.out.b.lt
  have b0 := HB.out.b.cell 0
  have b1 := HB.out.b.cell 1
  have b2 := HB.out.b.cell 2
  have b3 := HB.out.b.lt
  have c0 := HC.out.b.cell 0
  have c1 := HC.out.b.cell 1
  have c2 := HC.out.b.cell 2
  have c3 := HC.out.b.lt
  go_wp2_with fail
  refine dag 9 (by kernel_rfl) (by kernel_rfl) (.is ?_ :: .like (IsInts 3 [0, 0, 0]) :: .like (IsInts 3 [0, 0, 0]) :: .is (.tuple #[.int .i64 46, .int .i64 0]) :: .is ?_ :: .is ?_ :: .is ?_ :: .is ?_ :: .is ?_ :: []) rfl ?st5 ?ob5
  case st5 => repeat (first | exact stab_nil | refine stab_is ?_ | refine stab_like IsInts.stab ?_)
  case ob5 =>
  intro env5 V5 hG
  obtain ⟨hc, hf⟩ := bcell hG
  have HG := Lib.hid hG
  clear hG
  iterate 1 (refine obls_is ?_ ?_; unfold doesAt; go_simp; (try go_bits); (first | (refine ⟨brefl _, ?_⟩; rfl) | rfl); intro K hK; go_simp; refine hK _ ?_; clear hK K)
  refine obls_like (fun _ => ?_) ?_
  · unfold doesAt
    go_simp
    exact ⟨balloc (brefl _) _, _, _, rfl, lit_sl (xs := [0, 0, 0]) (Blk.new _ _ _) (by simp) rfl (by omega)⟩
  intro K hK
  go_simp
  refine hK _ ?_
  clear hK K
  refine obls_like (fun hl => ?_) ?_
  · obtain ⟨G, c, hE, hsl⟩ : IsInts 3 [0, 0, 0] (env5 1) V5 := hl ⟨1, .data⟩ (by simp) rfl
    have Hsl := Lib.hid hsl
    clear hsl
    unfold doesAt
    go_simp
    refine (longs_any G 3 c V5).mono ?_
    rintro e w3 ⟨rfl, hb3⟩
    exact ⟨_, rfl, hb3, G, c, rfl, Hsl.out.later hb3⟩
  intro K hK
  go_simp
  refine hK _ ?_
  clear hK K
  refine obls_isL (fun hl => ?_) ?_
  · obtain ⟨G, c, hE, hsl⟩ : IsInts 3 [0, 0, 0] (env5 2) V5 := hl ⟨2, .data⟩ (by simp) rfl
    have Hsl := Lib.hid hsl
    clear hsl
    unfold doesAt
    go_simp
    refine (t_proof (HC.out.later HG.out) x_p4 Hsl.out).mono ?_
    rintro e w3 ⟨rfl, hb3⟩
    exact ⟨rfl, hb3⟩
  intro K hK
  go_simp
  refine hK _ ?_
  clear hK K
  repeat (refine obls_is ?_ ?_; unfold doesAt; go_simp; (try go_bits); (first | (refine ⟨brefl _, ?_⟩; rfl) | rfl); intro K hK; go_simp; refine hK _ ?_; clear hK K)
  refine obls_nil (fun _ => ?_)
  clear a0 a1 a2 a3 b0 b1 b2 b3 c0 c1 c2 c3
  have HWn := Lib.hid (HW.out.later HG.out)
  have HAn := Lib.hid (HA.out.later HG.out)
  have HBn := Lib.hid (HB.out.later HG.out)
  have HCn := Lib.hid (HC.out.later HG.out)
  have FSn := Lib.hid (FS.out.later HG.out)
  clear HW HA HB HC FS
  have HW := HWn
  have HA := HAn
  have HB := HBn
  have HC := HCn
  have FS := FSn
  clear HWn HAn HBn HCn FSn
  clear hc hf HG
  have a0 := HA.out.b.cell 0
  have a1 := HA.out.b.cell 1
  have a2 := HA.out.b.cell 2
  have a3 := HA.out.b.lt
  have b0 := HB.out.b.cell 0
  have b1 := HB.out.b.cell 1
  have b2 := HB.out.b.cell 2
  have b3 := HB.out.b.lt
  have c0 := HC.out.b.cell 0
  have c1 := HC.out.b.cell 1
  have c2 := HC.out.b.cell 2
  have c3 := HC.out.b.lt
  go_wp2_with fail
  refine dag 9 (by kernel_rfl) (by kernel_rfl) (.is ?_ :: .like (IsInts 3 [0, 0, 0]) :: .like (IsInts 3 [0, 0, 0]) :: .is (.tuple #[.int .i64 46, .int .i64 0]) :: .is ?_ :: .is ?_ :: .is ?_ :: .is ?_ :: .is ?_ :: []) rfl ?st6 ?ob6
  case st6 => repeat (first | exact stab_nil | refine stab_is ?_ | refine stab_like IsInts.stab ?_)
  case ob6 =>
  intro env6 V6 hG
  obtain ⟨hc, hf⟩ := bcell hG
  have HG := Lib.hid hG
  clear hG
  iterate 1 (refine obls_is ?_ ?_; unfold doesAt; go_simp; (try go_bits); (first | (refine ⟨brefl _, ?_⟩; rfl) | rfl); intro K hK; go_simp; refine hK _ ?_; clear hK K)
  refine obls_like (fun _ => ?_) ?_
  · unfold doesAt
    go_simp
    exact ⟨balloc (brefl _) _, _, _, rfl, lit_sl (xs := [0, 0, 0]) (Blk.new _ _ _) (by simp) rfl (by omega)⟩
  intro K hK
  go_simp
  refine hK _ ?_
  clear hK K
  refine obls_like (fun hl => ?_) ?_
  · obtain ⟨G, c, hE, hsl⟩ : IsInts 3 [0, 0, 0] (env6 1) V6 := hl ⟨1, .data⟩ (by simp) rfl
    have Hsl := Lib.hid hsl
    clear hsl
    unfold doesAt
    go_simp
    refine (longs_any G 3 c V6).mono ?_
    rintro e w3 ⟨rfl, hb3⟩
    exact ⟨_, rfl, hb3, G, c, rfl, Hsl.out.later hb3⟩
  intro K hK
  go_simp
  refine hK _ ?_
  clear hK K
  refine obls_isL (fun hl => ?_) ?_
  · obtain ⟨G, c, hE, hsl⟩ : IsInts 3 [0, 0, 0] (env6 2) V6 := hl ⟨2, .data⟩ (by simp) rfl
    have Hsl := Lib.hid hsl
    clear hsl
    unfold doesAt
    go_simp
    refine (t_proof (HB.out.later HG.out) x_p5 Hsl.out).mono ?_
    rintro e w3 ⟨rfl, hb3⟩
    exact ⟨rfl, hb3⟩
  intro K hK
  go_simp
  refine hK _ ?_
  clear hK K
  repeat (refine obls_is ?_ ?_; unfold doesAt; go_simp; (try go_bits); (first | (refine ⟨brefl _, ?_⟩; rfl) | rfl); intro K hK; go_simp; refine hK _ ?_; clear hK K)
  refine obls_nil (fun _ => ?_)
  clear a0 a1 a2 a3 b0 b1 b2 b3 c0 c1 c2 c3
  have HWn := Lib.hid (HW.out.later HG.out)
  have HAn := Lib.hid (HA.out.later HG.out)
  have HBn := Lib.hid (HB.out.later HG.out)
  have HCn := Lib.hid (HC.out.later HG.out)
  have FSn := Lib.hid (FS.out.later HG.out)
  clear HW HA HB HC FS
  have HW := HWn
  have HA := HAn
  have HB := HBn
  have HC := HCn
  have FS := FSn
  clear HWn HAn HBn HCn FSn
  clear hc hf HG
  have a0 := HA.out.b.cell 0
  have a1 := HA.out.b.cell 1
  have a2 := HA.out.b.cell 2
  have a3 := HA.out.b.lt
  have b0 := HB.out.b.cell 0
  have b1 := HB.out.b.cell 1
  have b2 := HB.out.b.cell 2
  have b3 := HB.out.b.lt
  have c0 := HC.out.b.cell 0
  have c1 := HC.out.b.cell 1
  have c2 := HC.out.b.cell 2
  have c3 := HC.out.b.lt
  go_wp2_with fail
  refine (t_worth HC.out x_w0).mono ?_
  rintro e U7 ⟨rfl, hb⟩
  clear a0 a1 a2 a3 b0 b1 b2 b3 c0 c1 c2 c3
  have HWn := Lib.hid (HW.out.later hb)
  have HAn := Lib.hid (HA.out.later hb)
  have HBn := Lib.hid (HB.out.later hb)
  have HCn := Lib.hid (HC.out.later hb)
  have FSn := Lib.hid (FS.out.later hb)
  clear HW HA HB HC FS
  have HW := HWn
  have HA := HAn
  have HB := HBn
  have HC := HCn
  have FS := FSn
  clear HWn HAn HBn HCn FSn
  clear hb
  have a0 := HA.out.b.cell 0
  have a1 := HA.out.b.cell 1
  have a2 := HA.out.b.cell 2
  have a3 := HA.out.b.lt
  have b0 := HB.out.b.cell 0
  have b1 := HB.out.b.cell 1
  have b2 := HB.out.b.cell 2
  have b3 := HB.out.b.lt
  have c0 := HC.out.b.cell 0
  have c1 := HC.out.b.cell 1
  have c2 := HC.out.b.cell 2
  have c3 := HC.out.b.lt
  go_wp2_with fail
  refine (t_worth HC.out x_w1).mono ?_
  rintro e U8 ⟨rfl, hb⟩
  clear a0 a1 a2 a3 b0 b1 b2 b3 c0 c1 c2 c3
  have HWn := Lib.hid (HW.out.later hb)
  have HAn := Lib.hid (HA.out.later hb)
  have HBn := Lib.hid (HB.out.later hb)
  have HCn := Lib.hid (HC.out.later hb)
  have FSn := Lib.hid (FS.out.later hb)
  clear HW HA HB HC FS
  have HW := HWn
  have HA := HAn
  have HB := HBn
  have HC := HCn
  have FS := FSn
  clear HWn HAn HBn HCn FSn
  clear hb
  have a0 := HA.out.b.cell 0
  have a1 := HA.out.b.cell 1
  have a2 := HA.out.b.cell 2
  have a3 := HA.out.b.lt
  have b0 := HB.out.b.cell 0
  have b1 := HB.out.b.cell 1
  have b2 := HB.out.b.cell 2
  have b3 := HB.out.b.lt
  have c0 := HC.out.b.cell 0
  have c1 := HC.out.b.cell 1
  have c2 := HC.out.b.cell 2
  have c3 := HC.out.b.lt
  go_wp2_with fail
  refine (t_worth HA.out x_wa).mono ?_
  rintro e U9 ⟨rfl, hb⟩
  clear a0 a1 a2 a3 b0 b1 b2 b3 c0 c1 c2 c3
  have HWn := Lib.hid (HW.out.later hb)
  have HAn := Lib.hid (HA.out.later hb)
  have HBn := Lib.hid (HB.out.later hb)
  have HCn := Lib.hid (HC.out.later hb)
  have FSn := Lib.hid (FS.out.later hb)
  clear HW HA HB HC FS
  have HW := HWn
  have HA := HAn
  have HB := HBn
  have HC := HCn
  have FS := FSn
  clear HWn HAn HBn HCn FSn
  clear hb
  have a0 := HA.out.b.cell 0
  have a1 := HA.out.b.cell 1
  have a2 := HA.out.b.cell 2
  have a3 := HA.out.b.lt
  have b0 := HB.out.b.cell 0
  have b1 := HB.out.b.cell 1
  have b2 := HB.out.b.cell 2
  have b3 := HB.out.b.lt
  have c0 := HC.out.b.cell 0
  have c1 := HC.out.b.cell 1
  have c2 := HC.out.b.cell 2
  have c3 := HC.out.b.lt
  go_wp2_with fail
  refine (t_ref HA.out rfl (x_fine _ (.inl rfl)) x_r2).mono ?_
  rintro e U10 ⟨G4, n4, k4, rfl, hb, hsl⟩
  clear a0 a1 a2 a3 b0 b1 b2 b3 c0 c1 c2 c3
  have HWn := Lib.hid (HW.out.later hb)
  have HAn := Lib.hid (HA.out.later hb)
  have HBn := Lib.hid (HB.out.later hb)
  have HCn := Lib.hid (HC.out.later hb)
  have FSn := Lib.hid (FS.out.later hb)
  clear HW HA HB HC FS
  have HW := HWn
  have HA := HAn
  have HB := HBn
  have HC := HCn
  have FS := FSn
  clear HWn HAn HBn HCn FSn
  have FR := Lib.hid hsl
  clear hb hsl
  have a0 := HA.out.b.cell 0
  have a1 := HA.out.b.cell 1
  have a2 := HA.out.b.cell 2
  have a3 := HA.out.b.lt
  have b0 := HB.out.b.cell 0
  have b1 := HB.out.b.cell 1
  have b2 := HB.out.b.cell 2
  have b3 := HB.out.b.lt
  have c0 := HC.out.b.cell 0
  have c1 := HC.out.b.cell 1
  have c2 := HC.out.b.cell 2
  have c3 := HC.out.b.lt
  go_wp2_with fail
  have hn4 := FR.out.len
  simp only [List.length_nil] at hn4
  subst hn4
  refine (longs_any _ 3 3 _).mono ?_
  rintro e U11 ⟨rfl, hb0⟩
  obtain ⟨hsl, hb⟩ := lit3 [2, 4, 4] 3 hb0 rfl (by omega)
  clear a0 a1 a2 a3 b0 b1 b2 b3 c0 c1 c2 c3
  have HWn := Lib.hid (HW.out.later hb)
  have HAn := Lib.hid (HA.out.later hb)
  have HBn := Lib.hid (HB.out.later hb)
  have HCn := Lib.hid (HC.out.later hb)
  have FSn := Lib.hid (FS.out.later hb)
  clear HW HA HB HC FS
  have HW := HWn
  have HA := HAn
  have HB := HBn
  have HC := HCn
  have FS := FSn
  clear HWn HAn HBn HCn FSn
  have HX := Lib.hid hsl
  clear hb hb0 hsl
  go_wp2_with fail
  refine (eqL (by rw [← x_sp.2]; exact FS.out) HX.out).mono ?_
  clear HX
  rintro e U11b ⟨rfl, hb⟩
  have HWn := Lib.hid (HW.out.later hb)
  have HAn := Lib.hid (HA.out.later hb)
  have HBn := Lib.hid (HB.out.later hb)
  have HCn := Lib.hid (HC.out.later hb)
  have FSn := Lib.hid (FS.out.later hb)
  clear HW HA HB HC FS
  have HW := HWn
  have HA := HAn
  have HB := HBn
  have HC := HCn
  have FS := FSn
  clear HWn HAn HBn HCn FSn
  clear hb
  have a0 := HA.out.b.cell 0
  have a1 := HA.out.b.cell 1
  have a2 := HA.out.b.cell 2
  have a3 := HA.out.b.lt
  have b0 := HB.out.b.cell 0
  have b1 := HB.out.b.cell 1
  have b2 := HB.out.b.cell 2
  have b3 := HB.out.b.lt
  have c0 := HC.out.b.cell 0
  have c1 := HC.out.b.cell 1
  have c2 := HC.out.b.cell 2
  have c3 := HC.out.b.lt
  go_wp2_with fail
  refine (t_shop HB.out (x_fine _ (.inr (.inl rfl)))).mono ?_
  rintro e U12 ⟨rfl, hb⟩
  clear a0 a1 a2 a3 b0 b1 b2 b3 c0 c1 c2 c3
  have HWn := Lib.hid (HW.out.later hb)
  have HAn := Lib.hid (HA.out.later hb)
  have HBn := Lib.hid (HB.out.later hb)
  have HCn := Lib.hid (HC.out.later hb)
  have FSn := Lib.hid (FS.out.later hb)
  clear HW HA HB HC FS
  have HW := HWn
  have HA := HAn
  have HB := HBn
  have HC := HCn
  have FS := FSn
  clear HWn HAn HBn HCn FSn
  clear hb
  have a0 := HA.out.b.cell 0
  have a1 := HA.out.b.cell 1
  have a2 := HA.out.b.cell 2
  have a3 := HA.out.b.lt
  have b0 := HB.out.b.cell 0
  have b1 := HB.out.b.cell 1
  have b2 := HB.out.b.cell 2
  have b3 := HB.out.b.lt
  have c0 := HC.out.b.cell 0
  have c1 := HC.out.b.cell 1
  have c2 := HC.out.b.cell 2
  have c3 := HC.out.b.lt
  go_wp2_with fail
  clear a0 a1 a2 a3 b0 b1 b2 b3 c0 c1 c2 c3
  refine (works_any _).mono ?_
  rintro e U ⟨rfl, hb⟩
  have HY := Lib.hid (HW.out.later hb)
  clear hb
  go_wp2_with fail
  go_ret
  exact ⟨rfl, HY.out.b⟩
end Go.Proofs.Ytmfiggbobaihcaa
