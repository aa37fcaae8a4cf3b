/- The document's sized, Given. -/
import Derived.Test.YtmfiggbobaihcaaGFillB
import Derived.Test.YtmfiggbobaihcaaGRefF
namespace Go.Proofs.Ytmfiggbobaihcaa
open Go.RowKit Go.Shelf

/-- No number of the first rows is out of range. -/
def fineN (X : List (List Int)) (i : Nat) : Prop := ∀ (k : Nat) x, k < i → X[k]? = some x → x.any (outR 0 20) = false
set_option maxRecDepth 100000 in
set_option maxHeartbeats 8000000 in
theorem refSized_any (SA : Option Addr) (sn sc : Nat) (PA : Option Addr) (pn pc : Nat) (OA : Option Addr) (on oc : Nat) (S P : List Int) (O : List Od) (FA : Option Addr) (fn fc : Nat) (L : List Rw) (w : World) (hs : ShopIn w w.heap.size SA sn sc PA pn pc OA on oc S P O) (hl : FillIn w FA fn fc L) (h100 : fn ≤ 1000) : Calls Try.prog 62 #[.agg #[.slice SA sn sc, .slice PA pn pc, .slice OA on oc], .slice FA fn fc] w fun e w' => e = .returned (.int .i64 (sizeE S P O (rowsX L))) ∧ Below w.heap.size w w' := by
  obtain rfl := hs.stk.len
  obtain rfl := hs.prc.len
  obtain rfl := hs.ord.len
  have HG0 := Lib.hid (GW.start hs)
  obtain ⟨g0, g1, g2, g3⟩ := HG0.out.cells
  obtain rfl := hl.sl.len
  have Hl := Lib.hid hl
  have Hs := Lib.hid hs
  have Ho := Lib.hid (fun W (h : ShopIn W W.heap.size SA S.length sc PA P.length pc OA O.length oc S P O) => refShop_any SA S.length sc PA P.length pc OA O.length oc S P O W h)
  obtain ⟨res, hres⟩ : ∃ res, sizeE S P O (rowsX L) = res := ⟨_, rfl⟩
  rw [hres]
  have Hres := Lib.hid hres
  clear hres
  by_cases he : shopE S P O = 0
  case neg =>
    have hR : res = shopE S P O := by rw [← Hres.out]; unfold sizeE; rw [if_pos he]
    rw [hR]
    clear hR Hres hl Hl Hs
    obtain ⟨q, hq⟩ : ∃ q, shopE S P O = q := ⟨_, rfl⟩
    rw [hq] at Ho he ⊢
    have d1 : (q != 0) = true := by simpa using he
    clear hs hq he
    go_enter Try.func62, Try.ntmps62
    go_wp2_with fail
    refine (Ho.out _ HG0.out.sh).mono ?_
    rintro e w1 ⟨rfl, hb⟩
    have HG1 := Lib.hid (HG0.out.later hb)
    clear hb HG0 g0 g1 g2 g3
    obtain ⟨g0, g1, g2, g3⟩ := HG1.out.cells
    go_wp2_with fail
    refine (Ho.out _ HG1.out.sh).mono ?_
    rintro e w2 ⟨rfl, hb⟩
    have HG2 := Lib.hid (HG1.out.later hb)
    clear hb HG1 g0 g1 g2 g3
    obtain ⟨g0, g1, g2, g3⟩ := HG2.out.cells
    go_wp2
    go_ret
    exact ⟨rfl, HG2.out.bel⟩
  rw [he] at Ho
  have hF := fine_of he
  have n5 := hF.n5
  have HeqE := Lib.hid (show badLen S.length O (rowsX L) = true → res = 15 from fun h => by rw [← Hres.out]; unfold sizeE; rw [if_neg (fun h => h he), if_pos h])
  have HnuE := Lib.hid (show badLen S.length O (rowsX L) = false → badNum (rowsX L) = true → res = 3 from fun h h' => by rw [← Hres.out]; unfold sizeE; rw [if_neg (fun h => h he), if_neg (by rw [h]; decide), if_pos h'])
  have HzeE := Lib.hid (show badLen S.length O (rowsX L) = false → badNum (rowsX L) = false → res = 0 from fun h h' => by rw [← Hres.out]; unfold sizeE; rw [if_neg (fun h => h he), if_neg (by rw [h]; decide), if_neg (by rw [h']; decide)])
  clear hs he hF hl
  by_cases hn : L.length = O.length
  case neg =>
    have hR := HeqE.out (by unfold badLen; rw [decide_eq_true (show (rowsX L).length ≠ O.length by rw [rows_length]; exact hn)]; rfl)
    rw [hR]
    have dn : ((L.length : Int) != (O.length : Int)) = true := by simp; omega
    have dn2 : ¬ L.length = O.length := hn
    clear hn hR
    go_enter Try.func62, Try.ntmps62
    go_wp2_with fail
    refine (Ho.out _ HG0.out.sh).mono ?_
    rintro e w3 ⟨rfl, hb⟩
    have HG1 := Lib.hid (HG0.out.later hb)
    clear hb HG0 g0 g1 g2 g3
    obtain ⟨g0, g1, g2, g3⟩ := HG1.out.cells
    go_wp2
    go_ret
    exact ⟨rfl, HG1.out.bel⟩
  have dn : ((L.length : Int) != (O.length : Int)) = false := by simp; omega
  have Hn := Lib.hid hn
  clear hn
  go_enter Try.func62, Try.ntmps62
  go_wp2_with fail
  refine (Ho.out _ HG0.out.sh).mono ?_
  rintro e w4 ⟨rfl, hb⟩
  have HG1 := Lib.hid (HG0.out.later hb)
  clear hb HG0 g0 g1 g2 g3
  obtain ⟨g0, g1, g2, g3⟩ := HG1.out.cells
  go_wp2_with fail
  clear dn
  refine loop_n (fun m b W => b.defers = [] ∧ ∃ i : Nat, i + m = L.length ∧ Hid (GW w W w.heap.size SA S.length sc PA P.length pc OA O.length oc S P O) ∧ Hid (∀ (k : Nat) r, k < i → L[k]? = some r → decide (r.n ≠ S.length) = false) ∧ Fits (none :: some (.slice FA L.length fc) :: some (.pointer (some ⟨w.heap.size, 0, none⟩)) :: none :: none :: some (.int .i64 (i : Nat)) :: none :: none :: none :: none :: none :: none :: none :: none :: none :: none :: none :: none :: none :: none :: none :: none :: none :: none :: none :: none :: none :: none :: none :: none :: none :: none :: none :: none :: none :: none :: none :: none :: none :: none :: none :: none :: none :: none :: none :: none :: none :: none :: none :: none :: none :: none :: none :: none :: none :: none :: none :: none :: none :: none :: none :: none :: none :: none :: none :: none :: none :: []) b.tmps.toList) L.length ?_ ?_
  · refine ⟨rfl, 0, by omega, HG1, Lib.hid (fun k r hk => by omega), ?_⟩
    repeat (first | exact fits_nil | refine fits_none ?_ | refine fits_some ?_)
  clear HG1 g0 g1 g2 g3
  intro m b W hI K hK
  obtain ⟨hds, i, him, HG0, HN, hfit⟩ := hI
  obtain ⟨f, hf⟩ := fits_act hfit
  rw [hds] at hf
  subst hf
  clear hfit hds
  simp only [fillP, Nat.reduceAdd]
  obtain ⟨g0, g1, g2, g3⟩ := HG0.out.cells
  by_cases hlt : i < L.length
  · obtain ⟨rb, ro, r, rfl, hrb, hr, p0⟩ := (Hl.out.later HG0.out.bel).sl.ltW (i := i) hlt
    have i1 : (i : Int) < (L.length : Int) := by omega
    have i2 : (0 : Int) ≤ (i : Int) := by omega
    have i3 : IntKind.i64.wrap ((i : Int) + 1) = (i : Int) + 1 := by rw [IntKind.wrap_i64]; omega
    have Him := Lib.hid (show i + m = L.length ∧ i < L.length from ⟨him, hlt⟩)
    obtain ⟨q1, hq1⟩ : ∃ q1, ((r.n : Int) != (S.length : Int)) = q1 := ⟨_, rfl⟩
    have hq2 : decide (r.n ≠ S.length) = q1 := by rw [← hq1, Bool.eq_iff_iff]; simp; omega
    have Hbad := Lib.hid (show decide (r.n ≠ S.length) = true → res = 15 from fun h => HeqE.out (by unfold badLen; rw [Bool.or_eq_true]; right; rw [← rows_any Hl.out]; exact List.any_eq_true.2 ⟨r, List.mem_of_getElem? hr, h⟩))
    have Hsucc := Lib.hid (fun h => no_succ (p := fun r : Rw => decide (r.n ≠ S.length)) HN.out hr h)
    rw [hq2] at Hbad
    have Hq2 := Lib.hid hq2
    clear hr him hlt hq2
    go_wp2_with fail
    refine dag 9 (by kernel_rfl) (by kernel_rfl) (.is ?_ :: .is ?_ :: .is ?_ :: .is ?_ :: .is ?_ :: .is ?_ :: .is ?_ :: .is ?_ :: .is ?_ :: []) rfl ?st1 ?ob1
    case st1 => simp [Spec.ok]
    case ob1 =>
      intro env V hG
      obtain ⟨hc, hf⟩ := bcell hG
      repeat (refine obls_is ?_ ?_; unfold doesAt; go_simp; (try go_bits); (first | (refine ⟨brefl _, ?_⟩; rfl) | rfl); intro K hK; go_simp; refine hK _ ?_; clear hK K)
      refine obls_nil (fun _ => ?_)
      have HG2 := Lib.hid (HG0.out.later hG)
      clear hc hf hG g0 g1 g2 g3 p0
      cases q1 with
      | true =>
        have HR := Lib.hid (Hbad.out rfl)
        clear hK
        go_wp2
        go_ret
        exact ⟨ret_int HR.out.symm, HG2.out.bel⟩
      | false =>
        have HN2 := Lib.hid (Hsucc.out Hq2.out)
        go_wp2
        refine hK _ _ (m - 1) (by have := Him.out; omega) ⟨rfl, i + 1, by have := Him.out; omega, HG2, HN2, ?_⟩
        repeat (first | exact fits_nil | refine fits_none ?_ | refine fits_some ?_)
  have i1 : ¬ (i : Int) < (L.length : Int) := by omega
  obtain rfl : i = L.length := by omega
  have Hrn := Lib.hid (fun (k : Nat) r (hr : L[k]? = some r) => (show r.n = S.length from by
    have h := HN.out k r (List.getElem?_eq_some_iff.1 hr).1 hr
    simpa using h))
  have HbL := Lib.hid (show badLen S.length O (rowsX L) = false by
    unfold badLen
    rw [← rows_any Hl.out, Bool.or_eq_false_iff]
    refine ⟨decide_eq_false (by rw [rows_length]; have := Hn.out; omega), List.any_eq_false.2 fun r hr => ?_⟩
    obtain ⟨k, hk⟩ := List.getElem?_of_mem hr
    rw [Hrn.out k r hk]
    simp)
  clear hK him hlt HN
  go_wp2_with fail
  clear i1
  refine loop_n (fun m b W => b.defers = [] ∧ ∃ i : Nat, i + m = L.length ∧ Hid (GW w W w.heap.size SA S.length sc PA P.length pc OA O.length oc S P O) ∧ Hid (fineN (rowsX L) i) ∧ Fits (none :: some (.slice FA L.length fc) :: some (.pointer (some ⟨w.heap.size, 0, none⟩)) :: none :: none :: none :: some (.int .i64 (i : Nat)) :: none :: none :: none :: none :: none :: none :: none :: none :: none :: none :: none :: none :: none :: none :: none :: none :: none :: none :: none :: none :: none :: none :: none :: none :: none :: none :: none :: none :: none :: none :: none :: none :: none :: none :: none :: none :: none :: none :: none :: none :: none :: none :: none :: none :: none :: none :: none :: none :: none :: none :: none :: none :: none :: none :: none :: none :: none :: none :: none :: none :: []) b.tmps.toList) L.length ?_ ?_
  · refine ⟨rfl, 0, by omega, HG0, Lib.hid (fun k r hk => by omega), ?_⟩
    repeat (first | exact fits_nil | refine fits_none ?_ | refine fits_some ?_)
  clear HG0 g0 g1 g2 g3
  intro m b W hI K hK
  obtain ⟨hds, i, him, HG0, HN, hfit⟩ := hI
  obtain ⟨f, hf⟩ := fits_act hfit
  rw [hds] at hf
  subst hf
  clear hfit hds
  simp only [fillP, Nat.reduceAdd]
  by_cases hlt : i < L.length
  · obtain ⟨rb, ro, r, rfl, hrb, hr, p0⟩ := (Hl.out.later HG0.out.bel).sl.ltW (i := i) hlt
    have i1 : (i : Int) < (L.length : Int) := by omega
    have i2 : (0 : Int) ≤ (i : Int) := by omega
    have i3 : IntKind.i64.wrap ((i : Int) + 1) = (i : Int) + 1 := by rw [IntKind.wrap_i64]; omega
    have Him := Lib.hid (show i + m = L.length ∧ i < L.length from ⟨him, hlt⟩)
    have hrn := Hrn.out i r hr
    obtain ⟨rA, rn, rc, rxs⟩ := r
    simp only at hrn p0
    subst hrn
    have Hrow := Lib.hid (Hl.out.rows _ (List.mem_of_getElem? hr))
    have Hrx := Lib.hid (rows_at hr)
    have HLi := Lib.hid hr
    have HB0 := HG0
    clear him hlt hr p0 hrb
    go_wp2_with fail
    refine loop_n (fun q b W' => b.defers = [] ∧ W' = W ∧ ∃ g : Nat, g + q = S.length ∧ Hid (∀ (j : Nat) x, j < g → rxs[j]? = some x → outR 0 20 x = false) ∧ Fits (none :: some (.slice (some ⟨rb, ro, none⟩) L.length fc) :: some (.pointer (some ⟨w.heap.size, 0, none⟩)) :: none :: none :: none :: some (.int .i64 (i : Nat)) :: some (.int .i64 (g : Nat)) :: none :: none :: none :: none :: none :: none :: none :: none :: none :: none :: none :: none :: none :: none :: none :: none :: none :: none :: none :: none :: none :: none :: none :: none :: none :: none :: none :: none :: none :: none :: none :: none :: none :: none :: none :: none :: none :: none :: none :: none :: none :: none :: none :: none :: none :: none :: none :: none :: none :: none :: none :: none :: none :: none :: none :: none :: none :: none :: none :: []) b.tmps.toList) S.length ?_ ?_
    · refine ⟨rfl, rfl, 0, by omega, Lib.hid (fun j x hj => by omega), ?_⟩
      repeat (first | exact fits_nil | refine fits_none ?_ | refine fits_some ?_)
    clear HB0
    intro q b W' hI K2 hK2
    obtain ⟨hds, rfl, g, hgq, HN2, hfit⟩ := hI
    obtain ⟨f2, hf2⟩ := fits_act hfit
    rw [hds] at hf2
    subst hf2
    clear hfit hds
    simp only [fillP, Nat.reduceAdd]
    obtain ⟨rb2, ro2, r2, hA2, hrb2, hr2, p0⟩ := (Hl.out.later HG0.out.bel).sl.ltW (i := i) Him.out.2
    simp only [Option.some.injEq, Addr.mk.injEq, and_true] at hA2
    obtain ⟨rfl, rfl⟩ := hA2
    have hre : r2 = ⟨rA, S.length, rc, rxs⟩ := by
      have h2 := hr2
      have h3 : L[i]? = some ⟨rA, S.length, rc, rxs⟩ := HLi.out
      rw [h3] at h2
      cases h2
      rfl
    subst hre
    simp only at p0
    clear hr2
    have g0 : (i : Int) < (L.length : Int) := by have := Him.out; omega
    have g1 : (0 : Int) ≤ (i : Int) := by omega
    by_cases hlt : g < S.length
    · obtain ⟨xb, xo, x, rfl, hxb, hx, q0⟩ := (Hrow.out.later HG0.out.bel).ltI (i := g) hlt
      have j1 : (g : Int) < (S.length : Int) := by omega
      have j2 : (0 : Int) ≤ (g : Int) := by omega
      have j3 : IntKind.i64.wrap ((g : Int) + 1) = (g : Int) + 1 := by rw [IntKind.wrap_i64]; omega
      have Hgq := Lib.hid (show g + q = S.length ∧ g < S.length from ⟨hgq, hlt⟩)
      have Hbad := Lib.hid (show outR 0 20 x = true → res = 3 from fun h => HnuE.out HbL.out (by
        unfold badNum
        exact List.any_eq_true.2 ⟨rxs, List.mem_of_getElem? Hrx.out, List.any_eq_true.2 ⟨x, List.mem_of_getElem? hx, h⟩⟩))
      have Hsucc := Lib.hid (fun h => no_succ HN2.out hx h)
      clear hgq hlt hx
      cases h1 : decide (x < 0) with
      | true =>
        have HR := Lib.hid (Hbad.out (out_bad (.inl (of_decide_eq_true h1))))
        clear hK hK2
        go_wp2
        go_ret
        exact ⟨ret_int HR.out.symm, HG0.out.bel⟩
      | false =>
      cases h2 : decide (20 < x) with
      | true =>
        have HR := Lib.hid (Hbad.out (out_bad (.inr (of_decide_eq_true h2))))
        clear hK hK2
        go_wp2
        go_ret
        exact ⟨ret_int HR.out.symm, HG0.out.bel⟩
      | false =>
      have HN3 := Lib.hid (Hsucc.out (out_fine h1 h2))
      go_wp2
      refine hK2 _ _ (q - 1) (by have := Hgq.out; omega) ⟨rfl, rfl, g + 1, by have := Hgq.out; omega, HN3, ?_⟩
      repeat (first | exact fits_nil | refine fits_none ?_ | refine fits_some ?_)
    · obtain rfl : g = S.length := by omega
      have j1 : ¬ (S.length : Int) < (S.length : Int) := by omega
      have HN4 := Lib.hid (show fineN (rowsX L) (i + 1) from fun k x hk hx => by
        rcases Nat.lt_or_ge k i with h | h
        · exact HN.out k x h hx
        · obtain rfl : k = i := by omega
          rw [Hrx.out] at hx
          cases hx
          exact any_no fun j y hj hy => HN2.out j y (by have := Hrow.out.len; omega) hy)
      clear hgq hlt hK2
      go_wp2
      refine hK _ _ (m - 1) (by have := Him.out; omega) ⟨rfl, i + 1, by have := Him.out; omega, HG0, HN4, ?_⟩
      repeat (first | exact fits_nil | refine fits_none ?_ | refine fits_some ?_)
  · have i1 : ¬ (i : Int) < (L.length : Int) := by omega
    obtain rfl : i = L.length := by omega
    have HR := Lib.hid (HzeE.out HbL.out (any_no fun k x hk hx => HN.out k x (by rw [rows_length] at hk; exact hk) hx))
    clear hK him hlt
    go_wp2
    go_ret
    exact ⟨ret_int HR.out.symm, HG0.out.bel⟩
end Go.Proofs.Ytmfiggbobaihcaa
