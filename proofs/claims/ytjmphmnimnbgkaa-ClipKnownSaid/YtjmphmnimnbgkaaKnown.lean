/- ClipKnown: the examples of the chapter hold. No condition. -/
import Derived.Test.YtjmphmnimnbgkaaRows
import Derived.Test.YtjmphmnimnbgkaaWorks
import Derived.ProofKit
import Derived.OpenShut
namespace Go.Proofs.Ytjmphmnimnbgkaa
open Go.RowKit Go.Shelf

theorem t_rib {w W : World} {B0 : Nat} {FA KA : Option Addr} (h : WK w W B0 FA KA) : Calls Try.prog 20 #[.agg #[.int .i64 10, .slice FA 2 2]] W fun e w' => e = .returned (.int .i64 0) ∧ Below W.heap.size W w' := by
  have := ribbon_any ((10 : Nat) : Int) FA 2 2 fsT W h.fsl
  rw [ex_r] at this
  exact this
theorem t_knd {w W : World} {B0 : Nat} {FA KA : Option Addr} (h : WK w W B0 FA KA) : Calls Try.prog 22 #[.slice KA 3 3] W fun e w' => e = .returned (.int .i64 0) ∧ Below W.heap.size W w' := by
  have := kinds_any KA 3 3 ksT W h.ksl
  rw [ex_k] at this
  exact this
theorem t_rib3 (A : Option Addr) (W : World) (h : Sl 1 encI W W.heap.size A 2 2 [2, 1]) : Calls Try.prog 20 #[.agg #[.int .i64 3, .slice A 2 2]] W fun e w' => e = .returned (.int .i64 3) ∧ Below W.heap.size W w' := by
  have := ribbon_any 3 A 2 2 [2, 1] W h
  rw [ex_r3] at this
  exact this

set_option maxRecDepth 100000 in
set_option maxHeartbeats 8000000 in
theorem known_any (w : World) : Calls Try.prog 15 #[] w fun e w' => e = .returned (.bool true) ∧ Below w.heap.size w w' := by
  go_enter Try.func15, Try.ntmps15
  go_wp2_with fail
  refine (ten_lit w).mono ?_
  rintro e w1 ⟨FA, rfl, hb1, hs1⟩
  have HB1 := Lib.hid hb1
  have HS1 := Lib.hid hs1
  clear hb1 hs1
  go_wp2_with fail
  refine (three_lit w1).mono ?_
  rintro e w2 ⟨KA, rfl, hb2, hs2⟩
  have HB2 := Lib.hid (Below.later HB1.out hb2)
  have HS2 := Lib.hid (HS1.out.later hb2)
  have HT2 := Lib.hid hs2
  clear hb2 hs2 HB1 HS1
  go_wp2_with fail
  have HK := Lib.hid (show WK w (w2.alloc (.cells #[.int .i64 10, .slice FA 2 2] 24)) w2.heap.size FA KA from ⟨balloc HB2.out _, Blk.new _ _ _, HS2.out.later (balloc (brefl _) _), HT2.out.later (balloc (brefl _) _)⟩)
  clear HB2 HS2 HT2
  obtain ⟨B0, hB0⟩ : ∃ B0, w2.heap.size = B0 := ⟨_, rfl⟩
  generalize hW0 : w2.alloc (.cells #[.int .i64 10, .slice FA 2 2] 24) = W0 at *
  rw [hB0] at HK ⊢
  clear hW0 hB0
  have c0 := HK.out.b0.cell 0
  have c1 := HK.out.b0.cell 1
  have cz := HK.out.b0.lt
  clear w2
  refine dag 10 (by kernel_rfl) (by kernel_rfl) (.is ?_ :: .is ?_ :: .like (IsInts 2 [8, 2]) :: .like (IsSheets [⟨8, 2⟩]) :: .is (.tuple #[.int .i64 0, .int .i64 18]) :: .is ?_ :: .is ?_ :: .is ?_ :: .is ?_ :: .is ?_ :: []) rfl ?st2 ?ob2
  case st2 => repeat (first | exact stab_nil | refine stab_is ?_ | refine stab_like IsInts.stab ?_ | refine stab_like IsSheets.stab ?_)
  case ob2 =>
  intro env2 W2 hG
  obtain ⟨hc, hf⟩ := bcell hG
  have HG := Lib.hid hG
  clear hG
  iterate 2 (refine obls_is ?_ ?_; unfold doesAt; go_simp; (try go_bits); (first | (refine ⟨brefl _, ?_⟩; rfl) | rfl); intro K hK; go_simp; refine hK _ ?_; clear hK K)
  refine obls_like (fun _ => ?_) ?_
  · unfold doesAt
    go_simp
    exact ⟨balloc (brefl _) _, ints_new _ _ [8, 2] 2 rfl (by omega) _ rfl⟩
  intro K hK
  go_simp
  refine hK _ ?_
  clear hK K
  refine obls_like (fun hl => ?_) ?_
  · obtain ⟨G, c, hE, hsl⟩ : IsInts 2 [8, 2] (env2 2) W2 := hl ⟨2, .data⟩ (by simp) rfl
    have Hsl := Lib.hid hsl
    clear hsl
    unfold doesAt
    go_simp
    refine (sheets_is G 2 c [8, 2] W2 Hsl.out (by omega)).mono ?_
    rintro e w3 ⟨v, rfl, hb3, hv⟩
    exact ⟨v, rfl, hb3, hv⟩
  intro K hK
  go_simp
  refine hK _ ?_
  clear hK K
  refine obls_isL (fun hl => ?_) ?_
  · obtain ⟨G, n, c, hE, hsl⟩ : IsSheets [⟨8, 2⟩] (env2 3) W2 := hl ⟨3, .data⟩ (by simp) rfl
    have Hsl := Lib.hid hsl
    clear hsl
    unfold doesAt
    go_simp
    refine (t_cuts (HK.out.later HG.out) Hsl.out ex_c5).mono ?_
    rintro e w3 ⟨rfl, hb3⟩
    exact ⟨rfl, hb3⟩
  intro K hK
  go_simp
  refine hK _ ?_
  clear hK K
  repeat (refine obls_is ?_ ?_; unfold doesAt; go_simp; (try go_bits); (first | (refine ⟨brefl _, ?_⟩; rfl) | rfl); intro K hK; go_simp; refine hK _ ?_; clear hK K)
  refine obls_nil (fun _ => ?_)
  have HK2 := Lib.hid (HK.out.later HG.out)
  clear HK  c0 c1 cz
  first | clear hc hf HG | clear hb2
  have HK := HK2
  clear HK2 
  have c0 := HK.out.b0.cell 0
  have c1 := HK.out.b0.cell 1
  have cz := HK.out.b0.lt
  go_wp2_with fail
  refine dag 10 (by kernel_rfl) (by kernel_rfl) (.is ?_ :: .is ?_ :: .like (IsInts 10 [3, 3, 3, 3, 3, 3, 3, 3, 3, 3]) :: .like (IsInts 10 [3, 3, 3, 3, 3, 3, 3, 3, 3, 3]) :: .is (.tuple #[.int .i64 30, .int .i64 0]) :: .is ?_ :: .is ?_ :: .is ?_ :: .is ?_ :: .is ?_ :: []) rfl ?st3 ?ob3
  case st3 => repeat (first | exact stab_nil | refine stab_is ?_ | refine stab_like IsInts.stab ?_)
  case ob3 =>
  intro env3 W3 hG
  obtain ⟨hc, hf⟩ := bcell hG
  have HG := Lib.hid hG
  clear hG
  iterate 2 (refine obls_is ?_ ?_; unfold doesAt; go_simp; (try go_bits); (first | (refine ⟨brefl _, ?_⟩; rfl) | rfl); intro K hK; go_simp; refine hK _ ?_; clear hK K)
  refine obls_like (fun _ => ?_) ?_
  · unfold doesAt
    go_simp
    exact ⟨balloc (brefl _) _, ints_new _ _ [3, 3, 3, 3, 3, 3, 3, 3, 3, 3] 10 rfl (by omega) _ rfl⟩
  intro K hK
  go_simp
  refine hK _ ?_
  clear hK K
  refine obls_like (fun hl => ?_) ?_
  · obtain ⟨G, c, hE, hsl⟩ : IsInts 10 [3, 3, 3, 3, 3, 3, 3, 3, 3, 3] (env3 2) W3 := hl ⟨2, .data⟩ (by simp) rfl
    have Hsl := Lib.hid hsl
    clear hsl
    unfold doesAt
    go_simp
    refine (longs_any G 10 c W3).mono ?_
    rintro e w3 ⟨rfl, rfl⟩
    exact ⟨_, rfl, brefl _, G, c, rfl, Hsl.out⟩
  intro K hK
  go_simp
  refine hK _ ?_
  clear hK K
  refine obls_isL (fun hl => ?_) ?_
  · obtain ⟨G, c, hE, hsl⟩ : IsInts 10 [3, 3, 3, 3, 3, 3, 3, 3, 3, 3] (env3 3) W3 := hl ⟨3, .data⟩ (by simp) rfl
    have Hsl := Lib.hid hsl
    clear hsl
    unfold doesAt
    go_simp
    refine (t_prices (HK.out.later HG.out) Hsl.out ex_q5).mono ?_
    rintro e w3 ⟨rfl, hb3⟩
    exact ⟨rfl, hb3⟩
  intro K hK
  go_simp
  refine hK _ ?_
  clear hK K
  repeat (refine obls_is ?_ ?_; unfold doesAt; go_simp; (try go_bits); (first | (refine ⟨brefl _, ?_⟩; rfl) | rfl); intro K hK; go_simp; refine hK _ ?_; clear hK K)
  refine obls_nil (fun _ => ?_)
  have HK2 := Lib.hid (HK.out.later HG.out)
  clear HK  c0 c1 cz
  first | clear hc hf HG | clear hb3
  have HK := HK2
  clear HK2 
  have c0 := HK.out.b0.cell 0
  have c1 := HK.out.b0.cell 1
  have cz := HK.out.b0.lt
  go_wp2_with fail
  refine (t_cuts HK.out Sl.nil_ ex_c6).mono ?_
  rintro e W4 ⟨rfl, hb4⟩
  have HK2 := Lib.hid (HK.out.later hb4)
  clear HK  c0 c1 cz
  first | clear hc hf HG | clear hb4
  have HK := HK2
  clear HK2 
  have c0 := HK.out.b0.cell 0
  have c1 := HK.out.b0.cell 1
  have cz := HK.out.b0.lt
  go_wp2_with fail
  refine (t_rib HK.out).mono ?_
  rintro e W5 ⟨rfl, hb5⟩
  have HK2 := Lib.hid (HK.out.later hb5)
  clear HK  c0 c1 cz
  first | clear hc hf HG | clear hb5
  have HK := HK2
  clear HK2 
  have c0 := HK.out.b0.cell 0
  have c1 := HK.out.b0.cell 1
  have cz := HK.out.b0.lt
  go_wp2_with fail
  refine (t_knd HK.out).mono ?_
  rintro e W6 ⟨rfl, hb6⟩
  have HK2 := Lib.hid (HK.out.later hb6)
  clear HK  c0 c1 cz
  first | clear hc hf HG | clear hb6
  have HK := HK2
  clear HK2 
  have c0 := HK.out.b0.cell 0
  have c1 := HK.out.b0.cell 1
  have cz := HK.out.b0.lt
  go_wp2_with fail
  refine (of_any _ _ _ _).mono ?_
  rintro e W7 ⟨rfl, rfl⟩
  have hs7 := Blk.sl (xs := [2, 1]) (t := 3) (Blk.new W6 3 #[.int .i64 2, .int .i64 1]) (by decide)
  have HS7 := Lib.hid hs7
  have HB7 := Lib.hid (balloc HK.out.bel (.cells #[.int .i64 2, .int .i64 1] 3))
  clear hs7 HK c0 c1 cz
  go_wp2_with fail
  refine (ribbon_lit _ _ _ _ _).mono ?_
  rintro e W8 ⟨rfl, hb8⟩
  have HS8 := Lib.hid (HS7.out.later hb8)
  have HB8 := Lib.hid (Below.later HB7.out hb8)
  clear hb8 HS7 HB7
  go_wp2_with fail
  refine (t_rib3 _ _ HS8.out).mono ?_
  rintro e W9 ⟨rfl, hb9⟩
  have HB9 := Lib.hid (Below.later HB8.out hb9)
  clear hb9 HS8 HB8
  go_wp2_with fail
  refine (works_any _).mono ?_
  rintro e W10 ⟨rfl, hb10⟩
  have HB10 := Lib.hid (Below.later HB9.out hb10)
  clear hb10 HB9
  go_wp2
  go_ret
  exact ⟨rfl, HB10.out⟩
end Go.Proofs.Ytjmphmnimnbgkaa
