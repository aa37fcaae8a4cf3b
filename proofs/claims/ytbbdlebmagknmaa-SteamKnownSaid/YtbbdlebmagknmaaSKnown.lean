/- SteamKnown: the examples of the chapter hold. -/
import Derived.Test.YtbbdlebmagknmaaSWorks
namespace Go.Proofs.Ytbbdlebmagknmaa
open Go.RowKit Go.Shelf

theorem k_h : hoursE 2 rsA [5, 4, 4, 7, 7] = 0 ∧ hoursV 2 rsA [5, 4, 4, 7, 7] = 3 := ⟨by kernel_rfl, by kernel_rfl⟩
theorem k_h0 : hoursE 1 [] [] = 0 ∧ hoursV 1 [] [] = 0 := ⟨by kernel_rfl, by kernel_rfl⟩
theorem k_n1 : needE 2 rsA ⟨6, 9⟩ = 0 ∧ needV 2 rsA ⟨6, 9⟩ = 1 := ⟨by kernel_rfl, by kernel_rfl⟩
theorem k_n2 : needE 2 rsA ⟨5, 5⟩ = 0 ∧ needV 2 rsA ⟨5, 5⟩ = 0 := ⟨by kernel_rfl, by kernel_rfl⟩
theorem k_p1 : proofE 2 rsA [⟨2, 9⟩] = 0 ∧ proofV 2 rsA [⟨2, 9⟩] = 3 := ⟨by kernel_rfl, by kernel_rfl⟩
theorem k_p0 : proofE 2 rsA [] = 0 ∧ proofV 2 rsA [] = 0 := ⟨by kernel_rfl, by kernel_rfl⟩
theorem k_l0 : lateV 1 [] = [] := by kernel_rfl
theorem k_k1 : keepE 2 rsA 1 = 0 ∧ keepV 2 rsA 1 = [0, 1] := ⟨by kernel_rfl, by kernel_rfl⟩
theorem k_k3 : keepE 2 rsA 3 = 0 ∧ keepV 2 rsA 3 = [0, 1, 2, 3, 4] := ⟨by kernel_rfl, by kernel_rfl⟩
theorem k_k0 : keepE 2 rsA 0 = 0 ∧ keepV 2 rsA 0 = [] := ⟨by kernel_rfl, by kernel_rfl⟩
section
variable {w W : World} {B1 B2 : Nat} {AA AB : Option Addr} {ca cb : Nat}
theorem s_h0 (h : WK w W B1 B2 AA AB ca cb) : Calls Try.prog 19 #[.agg #[.int .i64 1, .slice AB 0 cb], .slice none 0 0] W fun r w' => r = .returned (.tuple #[.int .i64 0, .int .i64 0]) ∧ Below W.heap.size W w' := by
  have := checkHours_any 1 AB 0 cb [] none 0 0 [] W h.s2 Sl.nil_
  rw [k_h0.1, k_h0.2] at this
  exact this
theorem s_p0 (h : WK w W B1 B2 AA AB ca cb) : Calls Try.prog 27 #[.agg #[.int .i64 2, .slice AA 5 ca], .slice none 0 0] W fun r w' => r = .returned (.tuple #[.int .i64 0, .int .i64 0]) ∧ Below W.heap.size W w' := by
  have := checkProof_any 2 AA 5 ca rsA none 0 0 [] W h.s1 Sl.nil_
  rw [k_p0.1, k_p0.2] at this
  exact this
theorem s_late (h : WK w W B1 B2 AA AB ca cb) : Calls Try.prog 33 #[.agg #[.int .i64 1, .slice AB 0 cb]] W fun r w' => ∃ G c, r = .returned (.tuple #[.slice G 0 c, .int .i64 0]) ∧ Below W.heap.size W w' := by
  have h0 := late_any 1 AB 0 cb [] W h.s2
  rw [x_yard0, k_l0] at h0
  refine h0.mono ?_
  rintro e w' ⟨v, rfl, hb, hown, _⟩
  obtain ⟨G, c, rfl, hsl⟩ := own_slI (ts := []) (n := 0) hown rfl
  exact ⟨G, c, rfl, hb⟩
theorem s_keep (h : WK w W B1 B2 AA AB ca cb) {k : Int} {us : List Nat} {vs : List Int} {n : Nat} (hx : keepE 2 rsA k = 0 ∧ keepV 2 rsA k = us) (hm : us.map (fun i : Nat => (i : Int)) = vs) (hn : vs.length = n) : Calls Try.prog 36 #[.agg #[.int .i64 2, .slice AA 5 ca], .int .i64 k] W fun r w' => ∃ G c, r = .returned (.tuple #[.slice G n c, .int .i64 0]) ∧ Below W.heap.size W w' ∧ Sl 1 encI w' w'.heap.size G n c vs := by
  have h0 := keep_any 2 AA 5 ca rsA k W h.s1
  rw [hx.1, hx.2] at h0
  refine h0.mono ?_
  rintro e w' ⟨v, rfl, hb, hown⟩
  subst hm
  rw [List.length_map] at hn
  subst hn
  have hown2 : w'.ownsRow W.heap.size 3 1 v us.length ((us.map (fun i : Nat => (i : Int))).map (.int .i64)) := by
    rw [List.map_map]
    exact hown
  obtain ⟨G, c, rfl, hsl⟩ := own_slI hown2 (by rw [List.length_map])
  exact ⟨G, c, rfl, hb, hsl⟩
theorem s_yard (h : WK w W B1 B2 AA AB ca cb) : Calls Try.prog 23 #[.agg #[.int .i64 1, .slice AB 0 cb]] W fun r w' => r = .returned (.int .i64 0) ∧ Below W.heap.size W w' := by
  have := checkYard_any 1 AB 0 cb [] W h.s2
  rw [x_yard0] at this
  exact this
end
theorem rg_sl {W : World} {B b : Nat} {t : TypeId} {x : Rg} (h : Blk W b t #[.int .i64 x.lo, .int .i64 x.hi]) (hb : b < B) : Sl 2 encR W B (some ⟨b, 0, none⟩) 1 1 [x] :=
  ⟨rfl, Nat.le_refl _, by omega, fun _ => ⟨b, 0, rfl, hb, fun i z hz j u hu => by
    rw [h.cell]
    match i, hz with
    | 0, rfl => match j, hu with
      | 0, rfl => rfl
      | 1, rfl => rfl⟩⟩
set_option maxRecDepth 100000 in
set_option maxHeartbeats 16000000 in
theorem known_any (w : World) : Calls Try.prog 16 #[] w fun e w' => e = .returned (.bool true) ∧ Below w.heap.size w w' := by
  go_enter Try.func16, Try.ntmps16
  go_wp2_with fail
  refine (five_any _).mono ?_
  rintro e w1 ⟨AA, ca, rfl, hb1, hs1⟩
  have HB1 := Lib.hid hb1
  have HS1 := Lib.hid hs1
  clear hb1 hs1
  go_wp2_with fail
  refine (none_any _).mono ?_
  rintro e w2 ⟨AB, cb, rfl, hb2, hs2⟩
  have hbl := Blk.new (w2.alloc (.cells #[.int .i64 2, .slice AA 5 ca] 24)) 24 #[.int .i64 1, .slice AB 0 cb]
  rw [World.size_alloc] at hbl
  have HK := Lib.hid (show WK w ((w2.alloc (.cells #[.int .i64 2, .slice AA 5 ca] 24)).alloc (.cells #[.int .i64 1, .slice AB 0 cb] 24)) w2.heap.size (w2.heap.size + 1) AA AB ca cb from ⟨balloc (balloc (Below.later HB1.out hb2) _) _, (Blk.new w2 _ _).alloc _, hbl, (HS1.out.later hb2).later (balloc (balloc (brefl w2) _) _), hs2.later (balloc (balloc (brefl w2) _) _)⟩)
  clear hb2 hs2 hbl HB1 HS1
  go_wp2_with fail
  generalize hW0 : (w2.alloc (.cells #[.int .i64 2, .slice AA 5 ca] 24)).alloc (.cells #[.int .i64 1, .slice AB 0 cb] 24) = W0 at *
  obtain ⟨B1, hB1⟩ : ∃ B1, w2.heap.size = B1 := ⟨_, rfl⟩
  rw [hB1] at HK ⊢
  obtain ⟨B2, hB2⟩ : ∃ B2, B1 + 1 = B2 := ⟨_, rfl⟩
  rw [hB2] at HK ⊢
  clear hW0 hB1 hB2
  clear w2 w1
  have c0 := HK.out.b1.cell 0
  have c1 := HK.out.b1.cell 1
  have c2 := HK.out.b1.lt
  have d0 := HK.out.b2.cell 0
  have d1 := HK.out.b2.cell 1
  have d2 := HK.out.b2.lt
  refine dag 9 (by kernel_rfl) (by kernel_rfl) (.is ?_ :: .like (IsInts 5 [5, 4, 4, 7, 7]) :: .like (IsInts 5 [5, 4, 4, 7, 7]) :: .is (.tuple #[.int .i64 3, .int .i64 0]) :: .is ?_ :: .is ?_ :: .is ?_ :: .is ?_ :: .is ?_ :: []) rfl ?st1 ?ob1
  case st1 => repeat (first | exact stab_nil | refine stab_is ?_ | refine stab_like IsInts.stab ?_)
  case ob1 =>
  intro env1 V1 hG
  obtain ⟨hc, hf⟩ := bcell hG
  have HG := Lib.hid hG
  clear hG
  iterate 1 (refine obls_is ?_ ?_; unfold doesAt; go_simp; (try go_bits); (first | (refine ⟨brefl _, ?_⟩; rfl) | rfl); intro K hK; go_simp; refine hK _ ?_; clear hK K)
  refine obls_like (fun _ => ?_) ?_
  · unfold doesAt
    go_simp
    exact ⟨balloc (brefl _) _, _, _, rfl, lit_sl (xs := [5, 4, 4, 7, 7]) (Blk.new _ _ _) (by simp) rfl (by omega)⟩
  intro K hK
  go_simp
  refine hK _ ?_
  clear hK K
  refine obls_like (fun hl => ?_) ?_
  · obtain ⟨G, c, hE, hsl⟩ : IsInts 5 [5, 4, 4, 7, 7] (env1 1) V1 := hl ⟨1, .data⟩ (by simp) rfl
    have Hsl := Lib.hid hsl
    clear hsl
    unfold doesAt
    go_simp
    refine (longs_any G 5 c V1).mono ?_
    rintro e w3 ⟨rfl, hb3⟩
    exact ⟨_, rfl, hb3, G, c, rfl, Hsl.out.later hb3⟩
  intro K hK
  go_simp
  refine hK _ ?_
  clear hK K
  refine obls_isL (fun hl => ?_) ?_
  · obtain ⟨G, c, hE, hsl⟩ : IsInts 5 [5, 4, 4, 7, 7] (env1 2) V1 := hl ⟨2, .data⟩ (by simp) rfl
    have Hsl := Lib.hid hsl
    clear hsl
    unfold doesAt
    go_simp
    refine (t_ch (HK.out.later HG.out) Hsl.out k_h).mono ?_
    rintro e w3 ⟨rfl, hb3⟩
    exact ⟨rfl, hb3⟩
  intro K hK
  go_simp
  refine hK _ ?_
  clear hK K
  repeat (refine obls_is ?_ ?_; unfold doesAt; go_simp; (try go_bits); (first | (refine ⟨brefl _, ?_⟩; rfl) | rfl); intro K hK; go_simp; refine hK _ ?_; clear hK K)
  refine obls_nil (fun _ => ?_)
  clear c0 c1 c2 d0 d1 d2
  have HKn := Lib.hid (HK.out.later HG.out)
  clear HK 
  have HK := HKn
  clear HKn 
  clear hc hf HG
  have c0 := HK.out.b1.cell 0
  have c1 := HK.out.b1.cell 1
  have c2 := HK.out.b1.lt
  have d0 := HK.out.b2.cell 0
  have d1 := HK.out.b2.cell 1
  have d2 := HK.out.b2.lt
  go_wp2_with fail
  refine (s_h0 HK.out).mono ?_
  rintro e U2 ⟨rfl, hb⟩
  clear c0 c1 c2 d0 d1 d2
  have HKn := Lib.hid (HK.out.later hb)
  clear HK 
  have HK := HKn
  clear HKn 
  clear hb
  have c0 := HK.out.b1.cell 0
  have c1 := HK.out.b1.cell 1
  have c2 := HK.out.b1.lt
  have d0 := HK.out.b2.cell 0
  have d1 := HK.out.b2.cell 1
  have d2 := HK.out.b2.lt
  go_wp2_with fail
  refine dag 8 (by kernel_rfl) (by kernel_rfl) (.is ?_ :: .is (.agg #[.int .i64 6, .int .i64 9]) :: .is (.tuple #[.int .i64 1, .int .i64 0]) :: .is ?_ :: .is ?_ :: .is ?_ :: .is ?_ :: .is ?_ :: []) rfl ?st3 ?ob3
  case st3 => repeat (first | exact stab_nil | refine stab_is ?_)
  case ob3 =>
  intro env3 V3 hG
  obtain ⟨hc, hf⟩ := bcell hG
  have HG := Lib.hid hG
  clear hG
  iterate 1 (refine obls_is ?_ ?_; unfold doesAt; go_simp; (try go_bits); (first | (refine ⟨brefl _, ?_⟩; rfl) | rfl); intro K hK; go_simp; refine hK _ ?_; clear hK K)
  refine obls_is ?_ ?_
  · unfold doesAt
    go_simp
    refine (to_any 6 9 V3).mono ?_
    rintro e w3 ⟨rfl, rfl⟩
    exact ⟨rfl, balloc (brefl _) _⟩
  intro K hK
  go_simp
  refine hK _ ?_
  clear hK K
  refine obls_is ?_ ?_
  · unfold doesAt
    go_simp
    refine (t_nd (HK.out.later HG.out) k_n1).mono ?_
    rintro e w3 ⟨rfl, hb3⟩
    exact ⟨rfl, hb3⟩
  intro K hK
  go_simp
  refine hK _ ?_
  clear hK K
  repeat (refine obls_is ?_ ?_; unfold doesAt; go_simp; (try go_bits); (first | (refine ⟨brefl _, ?_⟩; rfl) | rfl); intro K hK; go_simp; refine hK _ ?_; clear hK K)
  refine obls_nil (fun _ => ?_)
  clear c0 c1 c2 d0 d1 d2
  have HKn := Lib.hid (HK.out.later HG.out)
  clear HK 
  have HK := HKn
  clear HKn 
  clear hc hf HG
  have c0 := HK.out.b1.cell 0
  have c1 := HK.out.b1.cell 1
  have c2 := HK.out.b1.lt
  have d0 := HK.out.b2.cell 0
  have d1 := HK.out.b2.cell 1
  have d2 := HK.out.b2.lt
  go_wp2_with fail
  refine dag 8 (by kernel_rfl) (by kernel_rfl) (.is ?_ :: .is (.agg #[.int .i64 5, .int .i64 5]) :: .is (.tuple #[.int .i64 0, .int .i64 0]) :: .is ?_ :: .is ?_ :: .is ?_ :: .is ?_ :: .is ?_ :: []) rfl ?st4 ?ob4
  case st4 => repeat (first | exact stab_nil | refine stab_is ?_)
  case ob4 =>
  intro env4 V4 hG
  obtain ⟨hc, hf⟩ := bcell hG
  have HG := Lib.hid hG
  clear hG
  iterate 1 (refine obls_is ?_ ?_; unfold doesAt; go_simp; (try go_bits); (first | (refine ⟨brefl _, ?_⟩; rfl) | rfl); intro K hK; go_simp; refine hK _ ?_; clear hK K)
  refine obls_is ?_ ?_
  · unfold doesAt
    go_simp
    refine (to_any 5 5 V4).mono ?_
    rintro e w3 ⟨rfl, rfl⟩
    exact ⟨rfl, balloc (brefl _) _⟩
  intro K hK
  go_simp
  refine hK _ ?_
  clear hK K
  refine obls_is ?_ ?_
  · unfold doesAt
    go_simp
    refine (t_nd (HK.out.later HG.out) k_n2).mono ?_
    rintro e w3 ⟨rfl, hb3⟩
    exact ⟨rfl, hb3⟩
  intro K hK
  go_simp
  refine hK _ ?_
  clear hK K
  repeat (refine obls_is ?_ ?_; unfold doesAt; go_simp; (try go_bits); (first | (refine ⟨brefl _, ?_⟩; rfl) | rfl); intro K hK; go_simp; refine hK _ ?_; clear hK K)
  refine obls_nil (fun _ => ?_)
  clear c0 c1 c2 d0 d1 d2
  have HKn := Lib.hid (HK.out.later HG.out)
  clear HK 
  have HK := HKn
  clear HKn 
  clear hc hf HG
  have c0 := HK.out.b1.cell 0
  have c1 := HK.out.b1.cell 1
  have c2 := HK.out.b1.lt
  have d0 := HK.out.b2.cell 0
  have d1 := HK.out.b2.cell 1
  have d2 := HK.out.b2.lt
  go_wp2_with fail
  refine dag 10 (by kernel_rfl) (by kernel_rfl) (.is ?_ :: .is (.agg #[.int .i64 2, .int .i64 9]) :: .like (IsRgs [⟨2, 9⟩]) :: .like (IsRgs [⟨2, 9⟩]) :: .is (.tuple #[.int .i64 3, .int .i64 0]) :: .is ?_ :: .is ?_ :: .is ?_ :: .is ?_ :: .is ?_ :: []) rfl ?st5 ?ob5
  case st5 => repeat (first | exact stab_nil | refine stab_is ?_ | refine stab_like IsRgs.stab ?_)
  case ob5 =>
  intro env5 V5 hG
  obtain ⟨hc, hf⟩ := bcell hG
  have HG := Lib.hid hG
  clear hG
  iterate 1 (refine obls_is ?_ ?_; unfold doesAt; go_simp; (try go_bits); (first | (refine ⟨brefl _, ?_⟩; rfl) | rfl); intro K hK; go_simp; refine hK _ ?_; clear hK K)
  refine obls_is ?_ ?_
  · unfold doesAt
    go_simp
    refine (to_any 2 9 V5).mono ?_
    rintro e w3 ⟨rfl, rfl⟩
    exact ⟨rfl, balloc (brefl _) _⟩
  intro K hK
  go_simp
  refine hK _ ?_
  clear hK K
  refine obls_like (fun _ => ?_) ?_
  · unfold doesAt
    go_simp
    exact ⟨balloc (brefl _) _, _, _, _, rfl, rg_sl (x := ⟨2, 9⟩) (Blk.new _ _ _) (by simp)⟩
  intro K hK
  go_simp
  refine hK _ ?_
  clear hK K
  refine obls_like (fun hl => ?_) ?_
  · obtain ⟨G, n, c, hE, hsl⟩ : IsRgs [⟨2, 9⟩] (env5 2) V5 := hl ⟨2, .data⟩ (by simp) rfl
    have Hsl := Lib.hid hsl
    clear hsl
    unfold doesAt
    go_simp
    refine (ranges_any G n c V5).mono ?_
    rintro e w3 ⟨rfl, hb3⟩
    exact ⟨_, rfl, hb3, G, n, c, rfl, Hsl.out.later hb3⟩
  intro K hK
  go_simp
  refine hK _ ?_
  clear hK K
  refine obls_isL (fun hl => ?_) ?_
  · obtain ⟨G, n, c, hE, hsl⟩ : IsRgs [⟨2, 9⟩] (env5 3) V5 := hl ⟨3, .data⟩ (by simp) rfl
    have Hsl := Lib.hid hsl
    clear hsl
    unfold doesAt
    go_simp
    refine (t_cp (HK.out.later HG.out) Hsl.out k_p1).mono ?_
    rintro e w3 ⟨rfl, hb3⟩
    exact ⟨rfl, hb3⟩
  intro K hK
  go_simp
  refine hK _ ?_
  clear hK K
  repeat (refine obls_is ?_ ?_; unfold doesAt; go_simp; (try go_bits); (first | (refine ⟨brefl _, ?_⟩; rfl) | rfl); intro K hK; go_simp; refine hK _ ?_; clear hK K)
  refine obls_nil (fun _ => ?_)
  clear c0 c1 c2 d0 d1 d2
  have HKn := Lib.hid (HK.out.later HG.out)
  clear HK 
  have HK := HKn
  clear HKn 
  clear hc hf HG
  have c0 := HK.out.b1.cell 0
  have c1 := HK.out.b1.cell 1
  have c2 := HK.out.b1.lt
  have d0 := HK.out.b2.cell 0
  have d1 := HK.out.b2.cell 1
  have d2 := HK.out.b2.lt
  go_wp2_with fail
  refine (s_p0 HK.out).mono ?_
  rintro e U6 ⟨rfl, hb⟩
  clear c0 c1 c2 d0 d1 d2
  have HKn := Lib.hid (HK.out.later hb)
  clear HK 
  have HK := HKn
  clear HKn 
  clear hb
  have c0 := HK.out.b1.cell 0
  have c1 := HK.out.b1.cell 1
  have c2 := HK.out.b1.lt
  have d0 := HK.out.b2.cell 0
  have d1 := HK.out.b2.cell 1
  have d2 := HK.out.b2.lt
  go_wp2_with fail
  refine (s_late HK.out).mono ?_
  rintro e U7 ⟨G1, cp1, rfl, hb⟩
  clear c0 c1 c2 d0 d1 d2
  have HKn := Lib.hid (HK.out.later hb)
  clear HK 
  have HK := HKn
  clear HKn 
  clear hb
  have c0 := HK.out.b1.cell 0
  have c1 := HK.out.b1.cell 1
  have c2 := HK.out.b1.lt
  have d0 := HK.out.b2.cell 0
  have d1 := HK.out.b2.cell 1
  have d2 := HK.out.b2.lt
  go_wp2_with fail
  refine (s_keep HK.out k_k1 (vs := [0, 1]) (n := 2) rfl rfl).mono ?_
  rintro e U8 ⟨G2, c2k, rfl, hb, hsl⟩
  clear c0 c1 c2 d0 d1 d2
  have HKn := Lib.hid (HK.out.later hb)
  clear HK 
  have HK := HKn
  clear HKn 
  have FA := Lib.hid hsl
  clear hb hsl
  have c0 := HK.out.b1.cell 0
  have c1 := HK.out.b1.cell 1
  have c2 := HK.out.b1.lt
  have d0 := HK.out.b2.cell 0
  have d1 := HK.out.b2.cell 1
  have d2 := HK.out.b2.lt
  go_wp2_with fail
  refine (s_keep HK.out k_k3 (vs := [0, 1, 2, 3, 4]) (n := 5) rfl rfl).mono ?_
  rintro e U9 ⟨G3, c3k, rfl, hb, hsl⟩
  clear c0 c1 c2 d0 d1 d2
  have HKn := Lib.hid (HK.out.later hb)
  have FAn := Lib.hid (FA.out.later hb)
  clear HK FA
  have HK := HKn
  have FA := FAn
  clear HKn FAn
  have FL := Lib.hid hsl
  clear hb hsl
  have c0 := HK.out.b1.cell 0
  have c1 := HK.out.b1.cell 1
  have c2 := HK.out.b1.lt
  have d0 := HK.out.b2.cell 0
  have d1 := HK.out.b2.cell 1
  have d2 := HK.out.b2.lt
  go_wp2_with fail
  refine (s_keep HK.out k_k0 (vs := []) (n := 0) rfl rfl).mono ?_
  rintro e U10 ⟨G4, c4k, rfl, hb, _⟩
  clear c0 c1 c2 d0 d1 d2
  have HKn := Lib.hid (HK.out.later hb)
  have FAn := Lib.hid (FA.out.later hb)
  have FLn := Lib.hid (FL.out.later hb)
  clear HK FA FL
  have HK := HKn
  have FA := FAn
  have FL := FLn
  clear HKn FAn FLn
  clear hb
  have c0 := HK.out.b1.cell 0
  have c1 := HK.out.b1.cell 1
  have c2 := HK.out.b1.lt
  have d0 := HK.out.b2.cell 0
  have d1 := HK.out.b2.cell 1
  have d2 := HK.out.b2.lt
  go_wp2_with fail
  refine (of__any _ 2 2 _).mono ?_
  rintro e U11 ⟨rfl, hb0⟩
  obtain ⟨hsl, hb⟩ := lit3 [0, 1] 2 hb0 rfl (by omega)
  clear c0 c1 c2 d0 d1 d2
  have HKn := Lib.hid (HK.out.later hb)
  have FAn := Lib.hid (FA.out.later hb)
  have FLn := Lib.hid (FL.out.later hb)
  clear HK FA FL
  have HK := HKn
  have FA := FAn
  have FL := FLn
  clear HKn FAn FLn
  have HX := Lib.hid hsl
  clear hb hb0 hsl
  go_wp2_with fail
  refine (eqI FA.out HX.out).mono ?_
  clear HX
  rintro e U11b ⟨rfl, hb⟩
  have HKn := Lib.hid (HK.out.later hb)
  have FAn := Lib.hid (FA.out.later hb)
  have FLn := Lib.hid (FL.out.later hb)
  clear HK FA FL
  have HK := HKn
  have FA := FAn
  have FL := FLn
  clear HKn FAn FLn
  clear hb
  have c0 := HK.out.b1.cell 0
  have c1 := HK.out.b1.cell 1
  have c2 := HK.out.b1.lt
  have d0 := HK.out.b2.cell 0
  have d1 := HK.out.b2.cell 1
  have d2 := HK.out.b2.lt
  go_wp2_with fail
  refine (of__any _ 5 5 _).mono ?_
  rintro e U12 ⟨rfl, hb0⟩
  obtain ⟨hsl, hb⟩ := lit3 [0, 1, 2, 3, 4] 5 hb0 rfl (by omega)
  clear c0 c1 c2 d0 d1 d2
  have HKn := Lib.hid (HK.out.later hb)
  have FAn := Lib.hid (FA.out.later hb)
  have FLn := Lib.hid (FL.out.later hb)
  clear HK FA FL
  have HK := HKn
  have FA := FAn
  have FL := FLn
  clear HKn FAn FLn
  have HX := Lib.hid hsl
  clear hb hb0 hsl
  go_wp2_with fail
  refine (eqI FL.out HX.out).mono ?_
  clear HX
  rintro e U12b ⟨rfl, hb⟩
  have HKn := Lib.hid (HK.out.later hb)
  have FAn := Lib.hid (FA.out.later hb)
  have FLn := Lib.hid (FL.out.later hb)
  clear HK FA FL
  have HK := HKn
  have FA := FAn
  have FL := FLn
  clear HKn FAn FLn
  clear hb
  have c0 := HK.out.b1.cell 0
  have c1 := HK.out.b1.cell 1
  have c2 := HK.out.b1.lt
  have d0 := HK.out.b2.cell 0
  have d1 := HK.out.b2.cell 1
  have d2 := HK.out.b2.lt
  go_wp2_with fail
  refine (s_yard HK.out).mono ?_
  rintro e U13 ⟨rfl, hb⟩
  clear c0 c1 c2 d0 d1 d2
  have HKn := Lib.hid (HK.out.later hb)
  have FAn := Lib.hid (FA.out.later hb)
  have FLn := Lib.hid (FL.out.later hb)
  clear HK FA FL
  have HK := HKn
  have FA := FAn
  have FL := FLn
  clear HKn FAn FLn
  clear hb
  have c0 := HK.out.b1.cell 0
  have c1 := HK.out.b1.cell 1
  have c2 := HK.out.b1.lt
  have d0 := HK.out.b2.cell 0
  have d1 := HK.out.b2.cell 1
  have d2 := HK.out.b2.lt
  go_wp2_with fail
  refine (works_any _).mono ?_
  rintro e U14 ⟨rfl, hb⟩
  clear c0 c1 c2 d0 d1 d2
  have HKn := Lib.hid (HK.out.later hb)
  have FAn := Lib.hid (FA.out.later hb)
  have FLn := Lib.hid (FL.out.later hb)
  clear HK FA FL
  have HK := HKn
  have FA := FAn
  have FL := FLn
  clear HKn FAn FLn
  clear hb
  have c0 := HK.out.b1.cell 0
  have c1 := HK.out.b1.cell 1
  have c2 := HK.out.b1.lt
  have d0 := HK.out.b2.cell 0
  have d1 := HK.out.b2.cell 1
  have d2 := HK.out.b2.lt
  go_wp2_with fail
  go_ret
  exact ⟨rfl, HK.out.bel⟩
end Go.Proofs.Ytbbdlebmagknmaa
