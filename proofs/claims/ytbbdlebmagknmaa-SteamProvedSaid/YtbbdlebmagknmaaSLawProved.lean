/- The walk of SteamProved. -/
import Derived.Test.YtbbdlebmagknmaaSFine
import Derived.Test.YtbbdlebmagknmaaSChosen
namespace Go.Proofs.Ytbbdlebmagknmaa
open Go.RowKit Go.Shelf

def IsL (n : Nat) (xs : List Int) (v : Value) (W : World) : Prop := ∃ G c, v = .slice G n c ∧ Sl 1 encI W W.heap.size G n c xs
theorem chosen_E {L : Int} {rs : List Rg} (he : yardE L rs = 0) (bs : List Nat) : hoursE L rs (chosenP rs bs) = 0 := by
  have hr := (yard_ok he).2
  unfold hoursE
  have h1 : (chosenP rs bs).length = rs.length := chosen_len _ _ _
  rw [if_pos he, if_pos h1, if_neg]
  rw [chosen_ok hr bs]
  simp
theorem chosen_V {L : Nat} {rs : List Rg} (he : yardE (L : Int) rs = 0) (bs : List Nat) : LA rs L 101 ≤ hoursV (L : Int) rs (chosenP rs bs) := by
  have hr := yard_ok he
  unfold hoursV
  rw [if_pos (chosen_E he bs)]
  exact hours_least hr.2 (by omega) (chosen_len _ _ _) (chosen_ok hr.2 bs)
set_option maxRecDepth 100000 in
set_option maxHeartbeats 4000000 in
theorem proved_law (L : Int) (A : Option Addr) (n c : Nat) (rs : List Rg) (BA : Option Addr) (bn bc : Nat) (bs : List Nat) (WA : Option Addr) (wn wc : Nat) (ws : List Rg) (w : World) (hs : Sl 2 encR w w.heap.size A n c rs) (hbs : Sl 1 encB w w.heap.size BA bn bc bs) (hbd : ∀ x ∈ bs, x < 256) (hws : Sl 2 encR w w.heap.size WA wn wc ws) :
    Calls Try.prog 7 #[.agg #[.int .i64 L, .slice A n c], .slice BA bn bc, .slice WA wn wc] w fun e w' => e = .returned (.bool true) ∧ Below w.heap.size w w' := by
  have hB := balloc (brefl w) (.cells #[.int .i64 L, .slice A n c] 24)
  have HK := Lib.hid (show LW w (w.alloc (.cells #[.int .i64 L, .slice A n c] 24)) w.heap.size L A n c rs from ⟨hB, Blk.new w _ _, hs.later hB⟩)
  have HBS := Lib.hid (hbs.later hB)
  have HWS := Lib.hid (hws.later hB)
  have Hbd := Lib.hid hbd
  have hnl := hs.len
  have hwl := hws.len
  clear hB hbs hws hbd
  by_cases hy : yardE L rs = 0
  case neg =>
    have Hf := Lib.hid (fun W (h : Sl 2 encR W W.heap.size A n c rs) => fine_bad L A n c rs W h hy)
    clear hs hy hnl hwl
    obtain ⟨c0, c1, c2⟩ := HK.out.cells
    go_enter Try.func7, Try.ntmps7
    go_wp2_with fail
    refine (Hf.out _ HK.out.sl).mono ?_
    rintro e w1 ⟨rfl, hb1⟩
    have HE := Lib.hid (Below.later HK.out.bel hb1)
    clear hb1 c0 c1 c2
    go_wp2_with fail
    refine (works_any _).mono ?_
    rintro e w2 ⟨rfl, hb2⟩
    have HB2 := Lib.hid (Below.later HE.out hb2)
    clear hb2
    go_wp2
    go_ret
    exact ⟨rfl, HB2.out⟩
  case pos =>
  have Hf := Lib.hid (fun W (h : Sl 2 encR W W.heap.size A n c rs) => fine_ok L A n c rs W h hy)
  obtain ⟨Ln, rfl, hLn, hr⟩ := yard_nat hy
  have Hy := Lib.hid hy
  have Hr := Lib.hid hr
  by_cases hg : (20 : Int) < (bn : Int) ∨ (10 : Int) < (wn : Int)
  · clear hs hy hnl hwl hr
    obtain ⟨c0, c1, c2⟩ := HK.out.cells
    by_cases hg1 : (20 : Int) < (bn : Int)
    · clear hg
      go_enter Try.func7, Try.ntmps7
      go_wp2_with fail
      refine (Hf.out _ HK.out.sl).mono ?_
      rintro e w1 ⟨rfl, hb1⟩
      have HE := Lib.hid (Below.later HK.out.bel hb1)
      clear hb1 c0 c1 c2
      go_wp2_with fail
      refine (works_any _).mono ?_
      rintro e w2 ⟨rfl, hb2⟩
      have HB2 := Lib.hid (Below.later HE.out hb2)
      clear hb2
      go_wp2
      go_ret
      exact ⟨rfl, HB2.out⟩
    · have hg2 : (10 : Int) < (wn : Int) := by omega
      clear hg
      go_enter Try.func7, Try.ntmps7
      go_wp2_with fail
      refine (Hf.out _ HK.out.sl).mono ?_
      rintro e w1 ⟨rfl, hb1⟩
      have HE := Lib.hid (Below.later HK.out.bel hb1)
      clear hb1 c0 c1 c2
      go_wp2_with fail
      refine (works_any _).mono ?_
      rintro e w2 ⟨rfl, hb2⟩
      have HB2 := Lib.hid (Below.later HE.out hb2)
      clear hb2
      go_wp2
      go_ret
      exact ⟨rfl, HB2.out⟩
  have hg1 : ¬ ((20 : Int) < (bn : Int)) := by omega
  have hg2 : ¬ ((10 : Int) < (wn : Int)) := by omega
  have hL : 1 ≤ Ln ∧ Ln ≤ 10 := by omega
  obtain ⟨v, hv⟩ : ∃ v, LA rs Ln 101 = v := ⟨_, rfl⟩
  obtain ⟨x, hx⟩ : ∃ x, hoursV (Ln : Int) rs (chosenP rs bs) = x := ⟨_, rfl⟩
  obtain ⟨y, hyy⟩ : ∃ y, proofV (Ln : Int) rs ws = y := ⟨_, rfl⟩
  obtain ⟨z, hz⟩ : ∃ z, proofE (Ln : Int) rs ws = z := ⟨_, rfl⟩
  have hvx : v ≤ x := by
    have := chosen_V hy bs
    rw [hv, hx] at this
    exact this
  have hxv : ¬ (x < v) := by omega
  have hzz : z = 0 ∨ z = 3 ∨ z = 16 := by rw [← hz]; exact proof_err hy (by omega)
  have hyv : z = 0 → 0 ≤ y ∧ y ≤ v := by
    intro h0
    have := proof_least (ws := ws) hr hL (by rw [hz]; exact h0)
    rw [hyy, hv] at this
    exact this
  have hce := chosen_E hy bs
  have Hv := Lib.hid hv
  have Hx := Lib.hid hx
  have Hyy := Lib.hid hyy
  have Hz := Lib.hid hz
  have Hce := Lib.hid hce
  have Hhyv := Lib.hid hyv
  have Hzz := Lib.hid hzz
  have hbn60 : bn ≤ 60 := by omega
  clear hs hy hnl hwl hr hg hv hx hyy hz hce hyv hvx hzz hLn
  obtain ⟨c0, c1, c2⟩ := HK.out.cells
  go_enter Try.func7, Try.ntmps7
  go_wp2_with fail
  refine (Hf.out _ HK.out.sl).mono ?_
  rintro e w1 ⟨rfl, hb1⟩
  have HK1 := Lib.hid (HK.out.later hb1)
  have HBS1 := Lib.hid (HBS.out.later hb1)
  have HWS1 := Lib.hid (HWS.out.later hb1)
  clear hb1 c0 c1 c2 HK HBS HWS
  obtain ⟨c0, c1, c2⟩ := HK1.out.cells
  go_wp2_with fail
  refine (fewestL_any Ln A n c rs _ HK1.out.sl Hy.out).mono ?_
  rintro e w2 ⟨g, hh, rfl, hb2, _, _, _⟩
  rw [Hv.out]
  have HK2 := Lib.hid (HK1.out.later hb2)
  have HBS2 := Lib.hid (HBS1.out.later hb2)
  have HWS2 := Lib.hid (HWS1.out.later hb2)
  clear hb2 c0 c1 c2 HK1 HBS1 HWS1
  obtain ⟨c0, c1, c2⟩ := HK2.out.cells
  go_wp2_with fail
  refine dag 10 (by kernel_rfl) (by kernel_rfl) (.is ?_ :: .is ?_ :: .is ?_ :: .like (IsL n (chosenP rs bs)) :: .is (.tuple #[.int .i64 x, .int .i64 0]) :: .is ?_ :: .is ?_ :: .is ?_ :: .is ?_ :: .is ?_ :: []) rfl ?st1 ?ob1
  case st1 => repeat (first | exact stab_nil | refine stab_is ?_ | refine stab_like (fun _ _ _ hG ⟨G, c, h1, h2⟩ => ⟨G, c, h1, h2.later hG⟩) ?_)
  case ob1 =>
  intro env1 V1 hG
  obtain ⟨hc, hf⟩ := bcell hG
  have HG := Lib.hid hG
  clear hG
  iterate 3 (refine obls_is ?_ ?_; unfold doesAt; go_simp; (try go_bits); (first | (refine ⟨brefl _, ?_⟩; rfl) | rfl); intro K hK; go_simp; refine hK _ ?_; clear hK K)
  refine obls_like (fun _ => ?_) ?_
  · unfold doesAt
    go_simp
    refine (chosen_any (Ln : Int) A n c rs BA bn bc bs V1 (HK2.out.later HG.out).sl (HBS2.out.later HG.out) Hbd.out Hr.out hbn60).mono ?_
    rintro e w3 ⟨G, c', rfl, hb3, hsl⟩
    exact ⟨_, rfl, hb3, G, c', rfl, hsl⟩
  intro K hK
  go_simp
  refine hK _ ?_
  clear hK K
  refine obls_isL (fun hl => ?_) ?_
  · obtain ⟨G, c', hE, hsl⟩ : IsL n (chosenP rs bs) (env1 3) V1 := hl ⟨3, .data⟩ (by simp) rfl
    have Hsl := Lib.hid hsl
    clear hsl
    unfold doesAt
    go_simp
    refine (checkHours_any (Ln : Int) A n c rs G n c' (chosenP rs bs) V1 (HK2.out.later HG.out).sl Hsl.out).mono ?_
    rintro e w3 ⟨rfl, hb3⟩
    rw [Hce.out, Hx.out]
    exact ⟨rfl, hb3⟩
  intro K hK
  go_simp
  refine hK _ ?_
  clear hK K
  repeat (refine obls_is ?_ ?_; unfold doesAt; go_simp; (try go_bits); (first | (refine ⟨brefl _, ?_⟩; rfl) | rfl); intro K hK; go_simp; refine hK _ ?_; clear hK K)
  refine obls_nil (fun _ => ?_)
  have HK3 := Lib.hid (HK2.out.later HG.out)
  have HWS3 := Lib.hid (HWS2.out.later HG.out)
  clear hc hf HG HK2 HBS2 HWS2 c0 c1 c2
  obtain ⟨c0, c1, c2⟩ := HK3.out.cells
  go_wp2_with fail
  refine (checkProof_any (Ln : Int) A n c rs WA wn wc ws _ HK3.out.sl HWS3.out).mono ?_
  rintro e w4 ⟨rfl, hb4⟩
  rw [Hyy.out, Hz.out]
  have HB4 := Lib.hid (Below.later HK3.out.bel hb4)
  clear hb4 c0 c1 c2 HK3 HWS3
  rcases Hzz.out with h | h | h
  · subst h
    obtain ⟨q1, q2⟩ := Hhyv.out rfl
    go_wp2_with fail
    refine (works_any _).mono ?_
    rintro e w2 ⟨rfl, hb2⟩
    have HB2 := Lib.hid (Below.later HB4.out hb2)
    clear hb2
    go_wp2
    go_ret
    exact ⟨rfl, HB2.out⟩
  · subst h
    go_wp2_with fail
    refine (works_any _).mono ?_
    rintro e w2 ⟨rfl, hb2⟩
    have HB2 := Lib.hid (Below.later HB4.out hb2)
    clear hb2
    go_wp2
    go_ret
    exact ⟨rfl, HB2.out⟩
  · subst h
    go_wp2_with fail
    refine (works_any _).mono ?_
    rintro e w2 ⟨rfl, hb2⟩
    have HB2 := Lib.hid (Below.later HB4.out hb2)
    clear hb2
    go_wp2
    go_ret
    exact ⟨rfl, HB2.out⟩
end Go.Proofs.Ytbbdlebmagknmaa
