/- The walk of GradeSpends. -/
import Derived.Test.YtmfiggbobaihcaaGAllF
namespace Go.Proofs.Ytmfiggbobaihcaa
open Go.RowKit Go.Shelf

set_option maxRecDepth 100000 in
set_option maxHeartbeats 8000000 in
theorem spends_law (SA : Option Addr) (sn sc : Nat) (PA : Option Addr) (pn pc : Nat) (OA : Option Addr) (on oc : Nat) (S P : List Int) (O : List Od) (w : World) (hs : ShopIn w w.heap.size SA sn sc PA pn pc OA on oc S P O) : Calls Try.prog 4 #[.agg #[.slice SA sn sc, .slice PA pn pc, .slice OA on oc]] w fun e w' => e = .returned (.bool true) ∧ Below w.heap.size w w' := by
  obtain rfl := hs.stk.len
  obtain rfl := hs.prc.len
  obtain rfl := hs.ord.len
  have HG0 := Lib.hid (GW.start hs)
  obtain ⟨g0, g1, g2, g3⟩ := HG0.out.cells
  have Hgr := Lib.hid (fun W => great_any SA S.length sc PA P.length pc OA O.length oc W)
  obtain ⟨qg, hqg⟩ : ∃ qg, grB S.length P.length O.length = qg := ⟨_, rfl⟩
  rw [hqg] at Hgr
  cases qg with
  | true =>
    clear hqg hs
    go_enter Try.func4, Try.ntmps4
    go_wp2_with fail
    refine (Hgr.out _).mono ?_
    rintro e w1 ⟨rfl, hb⟩
    have HG1 := Lib.hid (HG0.out.later hb)
    clear hb HG0 g0 g1 g2 g3
    obtain ⟨g0, g1, g2, g3⟩ := HG1.out.cells
    go_wp2_with fail
    refine (works_any _).mono ?_
    rintro e we ⟨rfl, hbe⟩
    have HBE := Lib.hid (Below.later HG1.out.bel hbe)
    clear hbe
    go_wp2
    go_ret
    exact ⟨rfl, HBE.out⟩
  | false =>
  clear hqg
  by_cases hf : filE S P O = 0
  case neg =>
    have H1 := Lib.hid (fun W (h : ShopIn W W.heap.size SA S.length sc PA P.length pc OA O.length oc S P O) => spentA_bad SA S.length sc PA P.length pc OA O.length oc S P O W h hf)
    have H2 := Lib.hid (fun W (h : ShopIn W W.heap.size SA S.length sc PA P.length pc OA O.length oc S P O) => refSpent_bad SA S.length sc PA P.length pc OA O.length oc S P O W h hf)
    have H3 := Lib.hid (fun W (h : ShopIn W W.heap.size SA S.length sc PA P.length pc OA O.length oc S P O) => leastA_bad SA S.length sc PA P.length pc OA O.length oc S P O W h hf)
    have H4 := Lib.hid (fun W (h : ShopIn W W.heap.size SA S.length sc PA P.length pc OA O.length oc S P O) => refLeast_bad SA S.length sc PA P.length pc OA O.length oc S P O W h hf)
    have H5 := Lib.hid (fun W (h : ShopIn W W.heap.size SA S.length sc PA P.length pc OA O.length oc S P O) => fillA_bad SA S.length sc PA P.length pc OA O.length oc S P O W h hf)
    obtain ⟨q, hq⟩ : ∃ q, filE S P O = q := ⟨_, rfl⟩
    rw [hq] at H1 H2 H3 H4 H5 hf
    have d1 : (q != 0) = true := by simpa using hf
    clear hs hq
    go_enter Try.func4, Try.ntmps4
    go_wp2_with fail
    refine (Hgr.out _).mono ?_
    rintro e w2 ⟨rfl, hb⟩
    have HG1 := Lib.hid (HG0.out.later hb)
    clear hb HG0 g0 g1 g2 g3
    obtain ⟨g0, g1, g2, g3⟩ := HG1.out.cells
    go_wp2_with fail
    refine (H1.out _ HG1.out.sh).mono ?_
    rintro e w3 ⟨rfl, hb⟩
    have HG2 := Lib.hid (HG1.out.later hb)
    clear hb HG1 g0 g1 g2 g3
    obtain ⟨g0, g1, g2, g3⟩ := HG2.out.cells
    go_wp2_with fail
    refine (H2.out _ HG2.out.sh).mono ?_
    rintro e w4 ⟨rfl, hb⟩
    have HG3 := Lib.hid (HG2.out.later hb)
    clear hb HG2 g0 g1 g2 g3
    obtain ⟨g0, g1, g2, g3⟩ := HG3.out.cells
    go_wp2_with fail
    refine (H3.out _ HG3.out.sh).mono ?_
    rintro e w5 ⟨rfl, hb⟩
    have HG4 := Lib.hid (HG3.out.later hb)
    clear hb HG3 g0 g1 g2 g3
    obtain ⟨g0, g1, g2, g3⟩ := HG4.out.cells
    go_wp2_with fail
    refine (H4.out _ HG4.out.sh).mono ?_
    rintro e w6 ⟨rfl, hb⟩
    have HG5 := Lib.hid (HG4.out.later hb)
    clear hb HG4 g0 g1 g2 g3
    obtain ⟨g0, g1, g2, g3⟩ := HG5.out.cells
    go_wp2_with fail
    refine (H5.out _ HG5.out.sh).mono ?_
    rintro e w7 ⟨rfl, hb⟩
    have HG6 := Lib.hid (HG5.out.later hb)
    clear hb HG5 g0 g1 g2 g3
    obtain ⟨g0, g1, g2, g3⟩ := HG6.out.cells
    go_wp2_with fail
    refine (eqL (xs := []) Sl.nil_ Sl.nil_).mono ?_
    rintro e w8 ⟨rfl, hb⟩
    have HG7 := Lib.hid (HG6.out.later hb)
    clear hb HG6 g0 g1 g2 g3
    obtain ⟨g0, g1, g2, g3⟩ := HG7.out.cells
    go_wp2_with fail
    refine (wide_any none 0 0 [] _ Sl.nil_).mono ?_
    rintro e w9 ⟨rfl, hb⟩
    have HG8 := Lib.hid (HG7.out.later hb)
    clear hb HG7 g0 g1 g2 g3
    obtain ⟨g0, g1, g2, g3⟩ := HG8.out.cells
    rw [show widB [] = false from rfl]
    go_wp2_with fail
    refine (works_any _).mono ?_
    rintro e we ⟨rfl, hbe⟩
    have HBE := Lib.hid (Below.later HG8.out.bel hbe)
    clear hbe
    go_wp2
    go_ret
    exact ⟨rfl, HBE.out⟩
  case pos =>
  obtain ⟨he, hcan⟩ := filE_zero hf
  have hF := fine_of he
  have n5 := hF.n5
  have o8 := hF.o8
  have He := Lib.hid he
  have H1 := Lib.hid (fun W (h : ShopIn W W.heap.size SA S.length sc PA P.length pc OA O.length oc S P O) => spentA_ok SA S.length sc PA P.length pc OA O.length oc S P O W h hf)
  have H2 := Lib.hid (fun W (h : ShopIn W W.heap.size SA S.length sc PA P.length pc OA O.length oc S P O) => refSpent_ok SA S.length sc PA P.length pc OA O.length oc S P O W h hf)
  have H3 := Lib.hid (fun W (h : ShopIn W W.heap.size SA S.length sc PA P.length pc OA O.length oc S P O) => leastA_ok SA S.length sc PA P.length pc OA O.length oc S P O W h hf)
  have H4 := Lib.hid (fun W (h : ShopIn W W.heap.size SA S.length sc PA P.length pc OA O.length oc S P O) => refLeast_ok SA S.length sc PA P.length pc OA O.length oc S P O W h hf)
  have H5 := Lib.hid (fun W (h : ShopIn W W.heap.size SA S.length sc PA P.length pc OA O.length oc S P O) => fillA_ok SA S.length sc PA P.length pc OA O.length oc S P O W h hf)
  obtain ⟨v, hv⟩ : ∃ v, leV S.length P O (stockM S) = v := ⟨_, rfl⟩
  rw [hv] at H3 H4
  have Hv := Lib.hid hv
  clear hs hf he hcan hF hv
  go_enter Try.func4, Try.ntmps4
  go_wp2_with fail
  refine (Hgr.out _).mono ?_
  rintro e w10 ⟨rfl, hb⟩
  have HG1 := Lib.hid (HG0.out.later hb)
  clear hb HG0 g0 g1 g2 g3
  obtain ⟨g0, g1, g2, g3⟩ := HG1.out.cells
  go_wp2_with fail
  refine (H1.out _ HG1.out.sh).mono ?_
  rintro e w11 ⟨sb, rfl, hb, hsl⟩
  have HG2 := Lib.hid (HG1.out.later hb)
  clear hb HG1 g0 g1 g2 g3
  obtain ⟨g0, g1, g2, g3⟩ := HG2.out.cells
  have HQ2 := Lib.hid (ListIn.mk hsl)
  clear hsl
  go_wp2_with fail
  refine (H2.out _ HG2.out.sh).mono ?_
  rintro e w12 ⟨A2, c2, rfl, hb, hsl⟩
  have HG3 := Lib.hid (HG2.out.later hb)
  have HQ3 := Lib.hid (HQ2.out.later hb)
  clear hb HG2 HQ2 g0 g1 g2 g3
  obtain ⟨g0, g1, g2, g3⟩ := HG3.out.cells
  have HR3 := Lib.hid (ListIn.mk hsl)
  clear hsl
  go_wp2_with fail
  refine (H3.out _ HG3.out.sh).mono ?_
  rintro e w13 ⟨rfl, hb⟩
  have HG4 := Lib.hid (HG3.out.later hb)
  have HQ4 := Lib.hid (HQ3.out.later hb)
  have HR4 := Lib.hid (HR3.out.later hb)
  clear hb HG3 HQ3 HR3 g0 g1 g2 g3
  obtain ⟨g0, g1, g2, g3⟩ := HG4.out.cells
  go_wp2_with fail
  refine (H4.out _ HG4.out.sh).mono ?_
  rintro e w14 ⟨rfl, hb⟩
  have HG5 := Lib.hid (HG4.out.later hb)
  have HQ5 := Lib.hid (HQ4.out.later hb)
  have HR5 := Lib.hid (HR4.out.later hb)
  clear hb HG4 HQ4 HR4 g0 g1 g2 g3
  obtain ⟨g0, g1, g2, g3⟩ := HG5.out.cells
  go_wp2_with fail
  refine (H5.out _ HG5.out.sh).mono ?_
  rintro e w15 ⟨A3, c3, L, rfl, hb, hfl, hfi⟩
  have HG6 := Lib.hid (HG5.out.later hb)
  have HQ6 := Lib.hid (HQ5.out.later hb)
  have HR6 := Lib.hid (HR5.out.later hb)
  clear hb HG5 HQ5 HR5 g0 g1 g2 g3
  obtain ⟨g0, g1, g2, g3⟩ := HG6.out.cells
  have HF6 := Lib.hid hfl
  have Hfi := Lib.hid hfi
  clear hfl hfi
  have Hwid := Lib.hid (fillIs_wid HF6.out Hfi.out o8 n5)
  have hlen : L.length = O.length := by have h := Hfi.out.len; rw [List.length_map] at h; exact h
  have Hrf := Lib.hid (fun W (h : ShopIn W W.heap.size SA S.length sc PA P.length pc OA O.length oc S P O) (hl : FillIn W A3 O.length c3 L) => refFill_any SA S.length sc PA P.length pc OA O.length oc S P O A3 O.length c3 L W h hl (by omega))
  rw [show fillR S P O (rowsX L) = (v, 0) by rw [← Hv.out]; exact fillIs_R He.out Hfi.out] at Hrf
  clear hlen
  go_wp2_with fail
  refine (eqL HQ6.out.sl HR6.out.sl).mono ?_
  rintro e w16 ⟨rfl, hb⟩
  have HG7 := Lib.hid (HG6.out.later hb)
  have HQ7 := Lib.hid (HQ6.out.later hb)
  have HR7 := Lib.hid (HR6.out.later hb)
  have HF7 := Lib.hid (HF6.out.later hb)
  clear hb HG6 HQ6 HR6 HF6 g0 g1 g2 g3
  obtain ⟨g0, g1, g2, g3⟩ := HG7.out.cells
  go_wp2_with fail
  refine (wide_any _ _ _ L _ HF7.out.sl).mono ?_
  rintro e w17 ⟨rfl, hb⟩
  have HG8 := Lib.hid (HG7.out.later hb)
  have HQ8 := Lib.hid (HQ7.out.later hb)
  have HR8 := Lib.hid (HR7.out.later hb)
  have HF8 := Lib.hid (HF7.out.later hb)
  clear hb HG7 HQ7 HR7 HF7 g0 g1 g2 g3
  obtain ⟨g0, g1, g2, g3⟩ := HG8.out.cells
  rw [Hwid.out]
  go_wp2_with fail
  refine (Hrf.out _ HG8.out.sh HF8.out).mono ?_
  rintro e w18 ⟨rfl, hb⟩
  have HG9 := Lib.hid (HG8.out.later hb)
  have HQ9 := Lib.hid (HQ8.out.later hb)
  have HR9 := Lib.hid (HR8.out.later hb)
  have HF9 := Lib.hid (HF8.out.later hb)
  clear hb HG8 HQ8 HR8 HF8 g0 g1 g2 g3
  obtain ⟨g0, g1, g2, g3⟩ := HG9.out.cells
  go_wp2_with fail
  refine (works_any _).mono ?_
  rintro e we ⟨rfl, hbe⟩
  have HBE := Lib.hid (Below.later HG9.out.bel hbe)
  clear hbe
  go_wp2
  go_ret
  exact ⟨rfl, HBE.out⟩
end Go.Proofs.Ytmfiggbobaihcaa
