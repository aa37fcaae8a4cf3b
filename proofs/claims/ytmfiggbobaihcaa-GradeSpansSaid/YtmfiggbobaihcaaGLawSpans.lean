/- The walk of GradeSpans. -/
import Derived.Test.YtmfiggbobaihcaaGAllF
namespace Go.Proofs.Ytmfiggbobaihcaa
open Go.RowKit Go.Shelf

set_option maxRecDepth 100000 in
set_option maxHeartbeats 8000000 in
theorem spans_law (SA : Option Addr) (sn sc : Nat) (PA : Option Addr) (pn pc : Nat) (OA : Option Addr) (on oc : Nat) (S P : List Int) (O : List Od) (LA : Option Addr) (ln lc : Nat) (L : List Int) (w : World) (hs : ShopIn w w.heap.size SA sn sc PA pn pc OA on oc S P O) (hl : Sl 1 encI w w.heap.size LA ln lc L) : Calls Try.prog 6 #[.agg #[.slice SA sn sc, .slice PA pn pc, .slice OA on oc], .slice LA ln lc] w fun e w' => e = .returned (.bool true) ∧ Below w.heap.size w w' := by
  obtain rfl := hs.stk.len
  obtain rfl := hs.prc.len
  obtain rfl := hs.ord.len
  have HG0 := Lib.hid (GW.start hs)
  obtain ⟨g0, g1, g2, g3⟩ := HG0.out.cells
  have HL0 := Lib.hid (ListIn.later ⟨hl⟩ (balloc (brefl w) (.cells #[.slice SA S.length sc, .slice PA P.length pc, .slice OA O.length oc] 25)))
  have Hgr := Lib.hid (fun W => great_any SA S.length sc PA P.length pc OA O.length oc W)
  obtain ⟨qg, hqg⟩ : ∃ qg, grB S.length P.length O.length = qg := ⟨_, rfl⟩
  rw [hqg] at Hgr
  cases qg with
  | true =>
    clear hqg hs hl HL0
    go_enter Try.func6, Try.ntmps6
    go_wp2_with fail
    refine (Hgr.out _).mono ?_
    rintro e w1 ⟨rfl, hb⟩
    have HG1 := Lib.hid (HG0.out.later hb)
    clear hb HG0 g0 g1 g2 g3
    obtain ⟨g0, g1, g2, g3⟩ := HG1.out.cells
    go_wp2_with fail
    refine (works_any _).mono ?_
    rintro e we ⟨rfl, hbe⟩
    have HBE := Lib.hid (Below.later HG1.out.bel hbe)
    clear hbe
    go_wp2
    go_ret
    exact ⟨rfl, HBE.out⟩
  | false =>
  clear hqg
  cases hd : decide ((12 : Int) < (ln : Int)) with
  | true =>
    clear hs hl
    go_enter Try.func6, Try.ntmps6
    go_wp2_with fail
    refine (Hgr.out _).mono ?_
    rintro e w2 ⟨rfl, hb⟩
    have HG1 := Lib.hid (HG0.out.later hb)
    clear hb HG0 g0 g1 g2 g3
    obtain ⟨g0, g1, g2, g3⟩ := HG1.out.cells
    go_wp2_with fail
    refine (works_any _).mono ?_
    rintro e we ⟨rfl, hbe⟩
    have HBE := Lib.hid (Below.later HG1.out.bel hbe)
    clear hbe
    go_wp2
    go_ret
    exact ⟨rfl, HBE.out⟩
  | false =>
  have Hsp := Lib.hid (fun W (h : ShopIn W W.heap.size SA S.length sc PA P.length pc OA O.length oc S P O) (hl : Sl 1 encI W W.heap.size LA ln lc L) => span_any SA S.length sc PA P.length pc OA O.length oc S P O LA ln lc L W h hl)
  have Hrs := Lib.hid (fun W (h : ShopIn W W.heap.size SA S.length sc PA P.length pc OA O.length oc S P O) (hl : Sl 1 encI W W.heap.size LA ln lc L) => refSpan_any SA S.length sc PA P.length pc OA O.length oc S P O LA ln lc L W h hl)
  generalize (spanR S P O L).1 = x1 at *
  generalize (spanR S P O L).2.1 = x2 at *
  generalize (spanR S P O L).2.2 = x3 at *
  by_cases he : shopE S P O = 0
  case neg =>
    have H1 := Lib.hid (fun W (h : ShopIn W W.heap.size SA S.length sc PA P.length pc OA O.length oc S P O) => refuse_bad SA S.length sc PA P.length pc OA O.length oc S P O W h he)
    have H2 := Lib.hid (fun W (h : ShopIn W W.heap.size SA S.length sc PA P.length pc OA O.length oc S P O) => refRefuse_bad SA S.length sc PA P.length pc OA O.length oc S P O W h he)
    generalize shopE S P O = q at *
    clear hs hl he
    go_enter Try.func6, Try.ntmps6
    go_wp2_with fail
    refine (Hgr.out _).mono ?_
    rintro e w3 ⟨rfl, hb⟩
    have HG1 := Lib.hid (HG0.out.later hb)
    have HL1 := Lib.hid (HL0.out.later hb)
    clear hb HG0 HL0 g0 g1 g2 g3
    obtain ⟨g0, g1, g2, g3⟩ := HG1.out.cells
    go_wp2_with fail
    refine (Hsp.out _ HG1.out.sh HL1.out.sl).mono ?_
    rintro e w4 ⟨rfl, hb⟩
    have HG2 := Lib.hid (HG1.out.later hb)
    have HL2 := Lib.hid (HL1.out.later hb)
    clear hb HG1 HL1 g0 g1 g2 g3
    obtain ⟨g0, g1, g2, g3⟩ := HG2.out.cells
    go_wp2_with fail
    refine (Hrs.out _ HG2.out.sh HL2.out.sl).mono ?_
    rintro e w5 ⟨rfl, hb⟩
    have HG3 := Lib.hid (HG2.out.later hb)
    have HL3 := Lib.hid (HL2.out.later hb)
    clear hb HG2 HL2 g0 g1 g2 g3
    obtain ⟨g0, g1, g2, g3⟩ := HG3.out.cells
    go_wp2_with fail
    refine (H1.out _ HG3.out.sh).mono ?_
    rintro e w6 ⟨rfl, hb⟩
    have HG4 := Lib.hid (HG3.out.later hb)
    have HL4 := Lib.hid (HL3.out.later hb)
    clear hb HG3 HL3 g0 g1 g2 g3
    obtain ⟨g0, g1, g2, g3⟩ := HG4.out.cells
    go_wp2_with fail
    refine (H2.out _ HG4.out.sh).mono ?_
    rintro e w7 ⟨rfl, hb⟩
    have HG5 := Lib.hid (HG4.out.later hb)
    have HL5 := Lib.hid (HL4.out.later hb)
    clear hb HG4 HL4 g0 g1 g2 g3
    obtain ⟨g0, g1, g2, g3⟩ := HG5.out.cells
    go_wp2_with fail
    refine (eqI (xs := []) Sl.nil_ Sl.nil_).mono ?_
    rintro e w8 ⟨rfl, hb⟩
    have HG6 := Lib.hid (HG5.out.later hb)
    have HL6 := Lib.hid (HL5.out.later hb)
    clear hb HG5 HL5 g0 g1 g2 g3
    obtain ⟨g0, g1, g2, g3⟩ := HG6.out.cells
    go_wp2_with fail
    refine (works_any _).mono ?_
    rintro e we ⟨rfl, hbe⟩
    have HBE := Lib.hid (Below.later HG6.out.bel hbe)
    clear hbe
    go_wp2
    go_ret
    exact ⟨rfl, HBE.out⟩
  case pos =>
  have H1 := Lib.hid (fun W (h : ShopIn W W.heap.size SA S.length sc PA P.length pc OA O.length oc S P O) => refuse_ok SA S.length sc PA P.length pc OA O.length oc S P O W h he)
  have H2 := Lib.hid (fun W (h : ShopIn W W.heap.size SA S.length sc PA P.length pc OA O.length oc S P O) => refRefuse_ok SA S.length sc PA P.length pc OA O.length oc S P O W h he)
  clear hs hl he
  go_enter Try.func6, Try.ntmps6
  go_wp2_with fail
  refine (Hgr.out _).mono ?_
  rintro e w9 ⟨rfl, hb⟩
  have HG1 := Lib.hid (HG0.out.later hb)
  have HL1 := Lib.hid (HL0.out.later hb)
  clear hb HG0 HL0 g0 g1 g2 g3
  obtain ⟨g0, g1, g2, g3⟩ := HG1.out.cells
  go_wp2_with fail
  refine (Hsp.out _ HG1.out.sh HL1.out.sl).mono ?_
  rintro e w10 ⟨rfl, hb⟩
  have HG2 := Lib.hid (HG1.out.later hb)
  have HL2 := Lib.hid (HL1.out.later hb)
  clear hb HG1 HL1 g0 g1 g2 g3
  obtain ⟨g0, g1, g2, g3⟩ := HG2.out.cells
  go_wp2_with fail
  refine (Hrs.out _ HG2.out.sh HL2.out.sl).mono ?_
  rintro e w11 ⟨rfl, hb⟩
  have HG3 := Lib.hid (HG2.out.later hb)
  have HL3 := Lib.hid (HL2.out.later hb)
  clear hb HG2 HL2 g0 g1 g2 g3
  obtain ⟨g0, g1, g2, g3⟩ := HG3.out.cells
  go_wp2_with fail
  refine (H1.out _ HG3.out.sh).mono ?_
  rintro e w12 ⟨A3, n3, c3, rfl, hb, hsl⟩
  have HG4 := Lib.hid (HG3.out.later hb)
  have HL4 := Lib.hid (HL3.out.later hb)
  clear hb HG3 HL3 g0 g1 g2 g3
  obtain ⟨g0, g1, g2, g3⟩ := HG4.out.cells
  have HR4 := Lib.hid (ListIn.mk hsl)
  clear hsl
  go_wp2_with fail
  refine (H2.out _ HG4.out.sh).mono ?_
  rintro e w13 ⟨A4, n4, c4, rfl, hb, hsl⟩
  have HG5 := Lib.hid (HG4.out.later hb)
  have HL5 := Lib.hid (HL4.out.later hb)
  have HR5 := Lib.hid (HR4.out.later hb)
  clear hb HG4 HL4 HR4 g0 g1 g2 g3
  obtain ⟨g0, g1, g2, g3⟩ := HG5.out.cells
  have HQ5 := Lib.hid (ListIn.mk hsl)
  clear hsl
  go_wp2_with fail
  refine (eqI HR5.out.sl HQ5.out.sl).mono ?_
  rintro e w14 ⟨rfl, hb⟩
  have HG6 := Lib.hid (HG5.out.later hb)
  have HL6 := Lib.hid (HL5.out.later hb)
  have HR6 := Lib.hid (HR5.out.later hb)
  have HQ6 := Lib.hid (HQ5.out.later hb)
  clear hb HG5 HL5 HR5 HQ5 g0 g1 g2 g3
  obtain ⟨g0, g1, g2, g3⟩ := HG6.out.cells
  go_wp2_with fail
  refine (works_any _).mono ?_
  rintro e we ⟨rfl, hbe⟩
  have HBE := Lib.hid (Below.later HG6.out.bel hbe)
  clear hbe
  go_wp2
  go_ret
  exact ⟨rfl, HBE.out⟩
end Go.Proofs.Ytmfiggbobaihcaa
