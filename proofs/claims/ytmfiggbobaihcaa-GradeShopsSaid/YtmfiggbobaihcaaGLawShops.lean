/- The walk of GradeShops. -/
import Derived.Test.YtmfiggbobaihcaaGWorks
namespace Go.Proofs.Ytmfiggbobaihcaa
open Go.RowKit Go.Shelf

theorem gr_no {a b c : Nat} (h : grB a b c = false) : a ≤ 10 ∧ b ≤ 10 ∧ c ≤ 12 := by
  unfold grB at h
  rw [Bool.or_eq_false_iff, Bool.or_eq_false_iff, decide_eq_false_iff_not, decide_eq_false_iff_not, decide_eq_false_iff_not] at h
  omega
theorem wid_len {L : List Rw} (h : widB L = false) : L.length ≤ 12 := by
  unfold widB at h
  rw [decide_eq_false_iff_not] at h
  have : (L.length : Int) ≤ widM L L.length := by
    have key : ∀ i, (L.length : Int) ≤ widM L i := by
      intro i
      induction i with
      | zero => exact Int.le_refl _
      | succ i ih => unfold widM; omega
    exact key _
  omega
set_option maxRecDepth 100000 in
set_option maxHeartbeats 8000000 in
theorem shops_law (SA : Option Addr) (sn sc : Nat) (PA : Option Addr) (pn pc : Nat) (OA : Option Addr) (on oc : Nat) (S P : List Int) (O : List Od) (FA : Option Addr) (fn fc : Nat) (L : List Rw) (gi : Int) (w : World) (hs : ShopIn w w.heap.size SA sn sc PA pn pc OA on oc S P O) (hl : FillIn w FA fn fc L) : Calls Try.prog 3 #[.agg #[.slice SA sn sc, .slice PA pn pc, .slice OA on oc], .slice FA fn fc, .int .i64 gi] w fun e w' => e = .returned (.bool true) ∧ Below w.heap.size w w' := by
  obtain rfl := hs.stk.len
  obtain rfl := hs.prc.len
  obtain rfl := hs.ord.len
  have HG0 := Lib.hid (GW.start hs)
  obtain ⟨g0, g1, g2, g3⟩ := HG0.out.cells
  obtain rfl := hl.sl.len
  have HL0 := Lib.hid (hl.later (balloc (brefl w) (.cells #[.slice SA S.length sc, .slice PA P.length pc, .slice OA O.length oc] 25)))
  have Hgr := Lib.hid (fun W => great_any SA S.length sc PA P.length pc OA O.length oc W)
  obtain ⟨qg, hqg⟩ : ∃ qg, grB S.length P.length O.length = qg := ⟨_, rfl⟩
  rw [hqg] at Hgr
  clear hs hl
  cases qg with
  | true =>
    clear hqg HL0
    go_enter Try.func3, Try.ntmps3
    go_wp2_with fail
    refine (Hgr.out _).mono ?_
    rintro e w1 ⟨rfl, hb⟩
    have HG1 := Lib.hid (HG0.out.later hb)
    clear hb HG0 g0 g1 g2 g3
    obtain ⟨g0, g1, g2, g3⟩ := HG1.out.cells
    go_wp2_with fail
    refine (works_any _).mono ?_
    rintro e we ⟨rfl, hbe⟩
    have HBE := Lib.hid (Below.later HG1.out.bel hbe)
    clear hbe
    go_wp2
    go_ret
    exact ⟨rfl, HBE.out⟩
  | false =>
  clear hqg
  cases hw : widB L with
  | true =>
    go_enter Try.func3, Try.ntmps3
    go_wp2_with fail
    refine (Hgr.out _).mono ?_
    rintro e w2 ⟨rfl, hb⟩
    have HG1 := Lib.hid (HG0.out.later hb)
    have HL1 := Lib.hid (HL0.out.later hb)
    clear hb HG0 HL0 g0 g1 g2 g3
    obtain ⟨g0, g1, g2, g3⟩ := HG1.out.cells
    go_wp2_with fail
    refine (wide_any _ _ _ L _ HL1.out.sl).mono ?_
    rintro e w3 ⟨rfl, hb⟩
    have HG2 := Lib.hid (HG1.out.later hb)
    have HL2 := Lib.hid (HL1.out.later hb)
    clear hb HG1 HL1 g0 g1 g2 g3
    obtain ⟨g0, g1, g2, g3⟩ := HG2.out.cells
    rw [hw]
    go_wp2_with fail
    refine (works_any _).mono ?_
    rintro e we ⟨rfl, hbe⟩
    have HBE := Lib.hid (Below.later HG2.out.bel hbe)
    clear hbe
    go_wp2
    go_ret
    exact ⟨rfl, HBE.out⟩
  | false =>
  have Hw := Lib.hid hw
  have Hn := Lib.hid (show L.length ≤ 1000 by have := wid_len hw; omega)
  have Hcf := Lib.hid (fun W (h : ShopIn W W.heap.size SA S.length sc PA P.length pc OA O.length oc S P O) (hl : FillIn W FA L.length fc L) => checkFill_any SA S.length sc PA P.length pc OA O.length oc S P O FA L.length fc L W h hl Hn.out)
  have Hrf := Lib.hid (fun W (h : ShopIn W W.heap.size SA S.length sc PA P.length pc OA O.length oc S P O) (hl : FillIn W FA L.length fc L) => refFill_any SA S.length sc PA P.length pc OA O.length oc S P O FA L.length fc L W h hl Hn.out)
  have Hcs := Lib.hid (fun W (h : ShopIn W W.heap.size SA S.length sc PA P.length pc OA O.length oc S P O) => checkShort_any SA S.length sc PA P.length pc OA O.length oc S P O W h gi)
  have Hrs := Lib.hid (fun W (h : ShopIn W W.heap.size SA S.length sc PA P.length pc OA O.length oc S P O) => refCheckShort_any SA S.length sc PA P.length pc OA O.length oc S P O W h gi)
  have Hsh := Lib.hid (fun W (h : ShopIn W W.heap.size SA S.length sc PA P.length pc OA O.length oc S P O) => shortA_any SA S.length sc PA P.length pc OA O.length oc S P O W h)
  have Hrh := Lib.hid (fun W (h : ShopIn W W.heap.size SA S.length sc PA P.length pc OA O.length oc S P O) => refShort_any SA S.length sc PA P.length pc OA O.length oc S P O W h)
  have Hck := Lib.hid (fun W (h : ShopIn W W.heap.size SA S.length sc PA P.length pc OA O.length oc S P O) => checkShop_any SA S.length sc PA P.length pc OA O.length oc S P O W h)
  have Hrk := Lib.hid (fun W (h : ShopIn W W.heap.size SA S.length sc PA P.length pc OA O.length oc S P O) => refShop_any SA S.length sc PA P.length pc OA O.length oc S P O W h)
  generalize (fillR S P O (rowsX L)).1 = x1 at *
  generalize (fillR S P O (rowsX L)).2 = x2 at *
  generalize (chShortR S P O gi).1 = x3 at *
  generalize (chShortR S P O gi).2 = x4 at *
  generalize (shortR S P O).1 = x5 at *
  generalize (shortR S P O).2 = x6 at *
  generalize shopE S P O = x7 at *
  clear hw
  go_enter Try.func3, Try.ntmps3
  go_wp2_with fail
  refine (Hgr.out _).mono ?_
  rintro e w4 ⟨rfl, hb⟩
  have HG1 := Lib.hid (HG0.out.later hb)
  have HL1 := Lib.hid (HL0.out.later hb)
  clear hb HG0 HL0 g0 g1 g2 g3
  obtain ⟨g0, g1, g2, g3⟩ := HG1.out.cells
  go_wp2_with fail
  refine (wide_any _ _ _ L _ HL1.out.sl).mono ?_
  rintro e w5 ⟨rfl, hb⟩
  have HG2 := Lib.hid (HG1.out.later hb)
  have HL2 := Lib.hid (HL1.out.later hb)
  clear hb HG1 HL1 g0 g1 g2 g3
  obtain ⟨g0, g1, g2, g3⟩ := HG2.out.cells
  rw [Hw.out]
  go_wp2_with fail
  refine (Hcf.out _ HG2.out.sh HL2.out).mono ?_
  rintro e w6 ⟨rfl, hb⟩
  have HG3 := Lib.hid (HG2.out.later hb)
  have HL3 := Lib.hid (HL2.out.later hb)
  clear hb HG2 HL2 g0 g1 g2 g3
  obtain ⟨g0, g1, g2, g3⟩ := HG3.out.cells
  go_wp2_with fail
  refine (Hrf.out _ HG3.out.sh HL3.out).mono ?_
  rintro e w7 ⟨rfl, hb⟩
  have HG4 := Lib.hid (HG3.out.later hb)
  have HL4 := Lib.hid (HL3.out.later hb)
  clear hb HG3 HL3 g0 g1 g2 g3
  obtain ⟨g0, g1, g2, g3⟩ := HG4.out.cells
  go_wp2_with fail
  refine (Hcs.out _ HG4.out.sh).mono ?_
  rintro e w8 ⟨rfl, hb⟩
  have HG5 := Lib.hid (HG4.out.later hb)
  have HL5 := Lib.hid (HL4.out.later hb)
  clear hb HG4 HL4 g0 g1 g2 g3
  obtain ⟨g0, g1, g2, g3⟩ := HG5.out.cells
  go_wp2_with fail
  refine (Hrs.out _ HG5.out.sh).mono ?_
  rintro e w9 ⟨rfl, hb⟩
  have HG6 := Lib.hid (HG5.out.later hb)
  have HL6 := Lib.hid (HL5.out.later hb)
  clear hb HG5 HL5 g0 g1 g2 g3
  obtain ⟨g0, g1, g2, g3⟩ := HG6.out.cells
  go_wp2_with fail
  refine (Hsh.out _ HG6.out.sh).mono ?_
  rintro e w10 ⟨rfl, hb⟩
  have HG7 := Lib.hid (HG6.out.later hb)
  have HL7 := Lib.hid (HL6.out.later hb)
  clear hb HG6 HL6 g0 g1 g2 g3
  obtain ⟨g0, g1, g2, g3⟩ := HG7.out.cells
  go_wp2_with fail
  refine (Hrh.out _ HG7.out.sh).mono ?_
  rintro e w11 ⟨rfl, hb⟩
  have HG8 := Lib.hid (HG7.out.later hb)
  have HL8 := Lib.hid (HL7.out.later hb)
  clear hb HG7 HL7 g0 g1 g2 g3
  obtain ⟨g0, g1, g2, g3⟩ := HG8.out.cells
  go_wp2_with fail
  refine dag 39 (by kernel_rfl) (by kernel_rfl) (.is ?_ :: .is ?_ :: .is ?_ :: .is ?_ :: .is ?_ :: .is ?_ :: .is ?_ :: .is ?_ :: .is ?_ :: .is ?_ :: .is ?_ :: .is ?_ :: .is ?_ :: .is ?_ :: .is ?_ :: .is ?_ :: .is ?_ :: .is ?_ :: .is ?_ :: .is ?_ :: .is ?_ :: .is ?_ :: .is ?_ :: .is ?_ :: .is ?_ :: .is ?_ :: .is ?_ :: .is ?_ :: .is ?_ :: .is ?_ :: .is ?_ :: .is ?_ :: .is ?_ :: .is ?_ :: .is ?_ :: .is ?_ :: .is ?_ :: .is ?_ :: .is ?_ :: []) rfl ?st1 ?ob1
  case st1 => simp [Spec.ok]
  case ob1 =>
    intro env V hG
    obtain ⟨hc, hf⟩ := bcell hG
    have HV := Lib.hid hG
    have HG9 := Lib.hid (HG8.out.later hG)
    iterate 1 (refine obls_is ?_ ?_; unfold doesAt; go_simp; (try go_bits); (first | (refine ⟨brefl _, ?_⟩; rfl) | rfl); intro K hK; go_simp; refine hK _ ?_; clear hK K)
    refine obls_is ?_ ?_
    · unfold doesAt
      go_simp
      refine (Hck.out _ HG9.out.sh).mono ?_
      rintro e w1 ⟨rfl, hb1⟩
      (refine ⟨?_, hb1⟩; rfl)
    intro K hK
    go_simp
    refine hK _ ?_
    clear hK K
    iterate 1 (refine obls_is ?_ ?_; unfold doesAt; go_simp; (try go_bits); (first | (refine ⟨brefl _, ?_⟩; rfl) | rfl); intro K hK; go_simp; refine hK _ ?_; clear hK K)
    refine obls_is ?_ ?_
    · unfold doesAt
      go_simp
      refine (Hrk.out _ HG9.out.sh).mono ?_
      rintro e w1 ⟨rfl, hb1⟩
      (refine ⟨?_, hb1⟩; rfl)
    intro K hK
    go_simp
    refine hK _ ?_
    clear hK K
    iterate 32 (refine obls_is ?_ ?_; unfold doesAt; go_simp; (try go_bits); (first | (refine ⟨brefl _, ?_⟩; rfl) | rfl); intro K hK; go_simp; refine hK _ ?_; clear hK K)
    refine obls_is ?_ ?_
    · unfold doesAt
      go_simp
      refine (works_any V).mono ?_
      rintro e w1 ⟨rfl, hb1⟩
      (refine ⟨?_, hb1⟩; rfl)
    intro K hK
    go_simp
    refine hK _ ?_
    clear hK K
    repeat (refine obls_is ?_ ?_; unfold doesAt; go_simp; (try go_bits); (first | (refine ⟨brefl _, ?_⟩; rfl) | rfl); intro K hK; go_simp; refine hK _ ?_; clear hK K)
    refine obls_nil (fun _ => ?_)
    clear hc hf hG g0 g1 g2 g3
    go_wp2
    go_ret
    exact ⟨rfl, HG9.out.bel⟩
end Go.Proofs.Ytmfiggbobaihcaa
