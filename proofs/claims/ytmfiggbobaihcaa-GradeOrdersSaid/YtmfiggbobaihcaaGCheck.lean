/- grade.CheckShop. -/
import Derived.Test.YtmfiggbobaihcaaGShop
namespace Go.Proofs.Ytmfiggbobaihcaa
open Go.RowKit Go.Shelf

set_option maxHeartbeats 1000000 in
theorem stray_any (B n : Nat) (x : Od) (w : World) (hB : B < w.heap.size) (hl : w.cell? ⟨B, 0, none⟩ = some (.int .i64 ((n : Int) - 1))) :
    Calls Try.prog 64 #[.agg #[.int .i64 x.g, .int .i64 x.m], .pointer (some ⟨B, 0, none⟩)] w fun e w' => e = .returned (.bool (strayB n x)) ∧ Below w.heap.size w w' := by
  obtain ⟨a, b⟩ := x
  obtain ⟨l, hle⟩ : ∃ l : Int, l = (n : Int) - 1 := ⟨_, rfl⟩
  rw [← hle] at hl
  obtain ⟨q, hq⟩ : ∃ q, inR 0 l a = q := ⟨_, rfl⟩
  obtain ⟨r, hr⟩ : ∃ r, inR 0 20 b = r := ⟨_, rfl⟩
  have HE := Lib.hid (show strayB n ⟨a, b⟩ = (!q || !r) by unfold strayB; rw [← hle, hq, hr])
  have HB0 := Lib.hid (show Blk (w.alloc (.cells #[.int .i64 a, .int .i64 b] 66)) w.heap.size 66 #[.int .i64 a, .int .i64 b] from Blk.new w _ _)
  have Hq := Lib.hid hq
  have Hr := Lib.hid hr
  have hne : B ≠ w.heap.size := by omega
  clear hq hr hle
  go_enter Try.func64, Try.ntmps64
  go_wp2_with fail
  refine (within_one 0 l a (w.heap.size + 1) _ (by simp) (by go_simp)).mono ?_
  rintro e w1 ⟨rfl, hb1⟩
  rw [Hq.out]
  have hb2 := (HB0.out.alloc (.cells #[.int .i64 a] 2)).later hb1
  have c0 := hb2.cell 0
  have c1 := hb2.cell 1
  have c2 := hb2.lt
  have HB := Lib.hid (Below.later (balloc (balloc (brefl w) (.cells #[.int .i64 a, .int .i64 b] 66)) (.cells #[.int .i64 a] 2)) hb1)
  clear hb1 hb2
  cases q with
  | false =>
    go_wp2
    go_ret
    exact ⟨ret_bool (by rw [HE.out]; rfl), HB.out⟩
  | true =>
    go_wp2_with fail
    refine (within_one 0 20 b w1.heap.size _ (by simp) (by go_simp)).mono ?_
    rintro e w2 ⟨rfl, hb2⟩
    rw [Hr.out]
    have HB2 := Lib.hid (Below.later (balloc HB.out (.cells #[.int .i64 b] 2)) hb2)
    clear hb2
    go_wp2
    go_ret
    exact ⟨ret_bool (by rw [HE.out]; rfl), HB2.out⟩

/-- The error of a shop, step by step. -/
theorem shopE_alt (S P : List Int) (O : List Od) : shopE S P O =
    if !(inR 0 4 ((S.length : Int) - 1)) || decide ((8 : Int) < O.length) then 6
    else if P.length ≠ S.length then 15
    else if S.any (outR 0 50) || P.any (outR 0 100) || O.any (strayB S.length) then 3
    else if riseB P then 16 else 0 := rfl
theorem riseB_iff : ∀ P : List Int, riseB P = true ↔ ∃ j x y, P[j]? = some x ∧ P[j + 1]? = some y ∧ x < y
  | [] => by simp [riseB]
  | [_] => by simp [riseB]
  | x :: y :: l => by
    rw [riseB, Bool.or_eq_true, riseB_iff (y :: l), decide_eq_true_eq]
    constructor
    · rintro (h | ⟨j, a, b, h1, h2, h3⟩)
      · exact ⟨0, x, y, rfl, rfl, h⟩
      · exact ⟨j + 1, a, b, by simpa using h1, by simpa using h2, h3⟩
    · rintro ⟨j, a, b, h1, h2, h3⟩
      cases j with
      | zero => simp at h1 h2; subst h1 h2; exact .inl h3
      | succ j => exact .inr ⟨j, a, b, by simpa using h1, by simpa using h2, h3⟩
set_option maxHeartbeats 4000000 in
theorem checkShop_any (SA : Option Addr) (sn sc : Nat) (PA : Option Addr) (pn pc : Nat) (OA : Option Addr) (on oc : Nat) (S P : List Int) (O : List Od) (w : World) (hs : ShopIn w w.heap.size SA sn sc PA pn pc OA on oc S P O) :
    Calls Try.prog 25 #[.agg #[.slice SA sn sc, .slice PA pn pc, .slice OA on oc]] w fun e w' => e = .returned (.int .i64 (shopE S P O)) ∧ Below w.heap.size w w' := by
  obtain rfl := hs.stk.len
  obtain rfl := hs.prc.len
  obtain rfl := hs.ord.len
  have hw : IntKind.i64.wrap ((S.length : Int) - 1) = (S.length : Int) - 1 := by have := hs.stk.big; have := hs.stk.cap; rw [IntKind.wrap_i64]; omega
  have HG0 := Lib.hid ((GW.start hs).later (balloc (brefl _) (.cells #[.int .i64 ((S.length : Int) - 1)] 2)))
  have HL0 := Lib.hid (show Blk ((w.alloc (.cells #[.slice SA S.length sc, .slice PA P.length pc, .slice OA O.length oc] 25)).alloc (.cells #[.int .i64 ((S.length : Int) - 1)] 2)) (w.heap.size + 1) 2 #[.int .i64 ((S.length : Int) - 1)] from by simpa using Blk.new (w.alloc (.cells #[.slice SA S.length sc, .slice PA P.length pc, .slice OA O.length oc] 25)) 2 #[.int .i64 ((S.length : Int) - 1)])
  have HG1 := Lib.hid (HG0.out.later (balloc (brefl _) (.cells #[.int .i64 ((S.length : Int) - 1)] 2)))
  have HL1 := Lib.hid (HL0.out.later (balloc (brefl _) (.cells #[.int .i64 ((S.length : Int) - 1)] 2)))
  obtain ⟨q, hq⟩ : ∃ q, inR 0 4 ((S.length : Int) - 1) = q := ⟨_, rfl⟩
  have HE := Lib.hid (shopE_alt S P O)
  rw [hq] at HE
  have Hq := Lib.hid hq
  clear hs hq HG0 HL0
  go_enter Try.func25, Try.ntmps25
  go_wp2_with fail
  refine (within_one 0 4 ((S.length : Int) - 1) (w.heap.size + 1 + 1) _ (by simp) (by go_simp)).mono ?_
  rintro e w1 ⟨rfl, hb⟩
  rw [Hq.out]
  have HG0 := Lib.hid (HG1.out.later hb)
  have HL0 := Lib.hid (HL1.out.later hb)
  clear hb HG1 HL1
  obtain ⟨g0, g1, g2, g3⟩ := HG0.out.cells
  cases q with
  | false =>
    go_wp2
    go_ret
    exact ⟨ret_int (by rw [HE.out]; rfl), HG0.out.bel⟩
  | true =>
    by_cases h8 : (8 : Int) < (O.length : Int)
    · have d8 : decide ((8 : Int) < (O.length : Int)) = true := by simpa using h8
      rw [d8] at HE
      clear h8
      go_wp2
      go_ret
      exact ⟨ret_int (by rw [HE.out]; rfl), HG0.out.bel⟩
    have d8 : decide ((8 : Int) < (O.length : Int)) = false := by simpa using h8
    rw [d8] at HE
    clear h8
    by_cases hn : P.length = S.length
    case neg =>
      have dn : ((P.length : Int) == (S.length : Int)) = false := by simp; omega
      have dn2 : ¬ P.length = S.length := hn
      have HE2 := Lib.hid (show shopE S P O = 15 by rw [HE.out, if_pos hn]; rfl)
      clear hn
      go_wp2
      go_ret
      exact ⟨ret_int HE2.out.symm, HG0.out.bel⟩
    case pos =>
    have HE2 := Lib.hid (show shopE S P O = if S.any (outR 0 50) || P.any (outR 0 100) || O.any (strayB S.length) then 3 else if riseB P then 16 else 0 by rw [HE.out, if_neg (by decide), if_neg (fun h => h hn)])
    have Hn := Lib.hid hn
    have Hq := Lib.hid (show 1 ≤ S.length by have := (inR_iff _ _ _).1 Hq.out; omega)
    have dn : ((P.length : Int) == (S.length : Int)) = true := by simp; omega
    clear hn HE
    obtain ⟨a, ha⟩ : ∃ a, S.any (outR 0 50) = a := ⟨_, rfl⟩
    obtain ⟨b, hb⟩ : ∃ b, P.any (outR 0 100) = b := ⟨_, rfl⟩
    obtain ⟨c, hc⟩ : ∃ c, O.any (strayB S.length) = c := ⟨_, rfl⟩
    rw [ha, hb, hc] at HE2
    have Ha := Lib.hid ha
    have Hb := Lib.hid hb
    have Hc := Lib.hid hc
    clear ha hb hc
    go_wp2_with fail
    refine (within_any 0 50 _ _ _ S _ HG0.out.sh.stk).mono ?_
    rintro e w1 ⟨rfl, hb⟩
    have HG1 := Lib.hid (HG0.out.later hb)
    have HL1 := Lib.hid (HL0.out.later hb)
    clear hb HG0 HL0 g0 g1 g2 g3
    obtain ⟨g0, g1, g2, g3⟩ := HG1.out.cells
    rw [Ha.out]
    cases a with
    | true =>
      go_wp2
      go_ret
      exact ⟨ret_int (by rw [HE2.out]; rfl), HG1.out.bel⟩
    | false =>
    go_wp2_with fail
    refine (within_any 0 100 _ _ _ P _ HG1.out.sh.prc).mono ?_
    rintro e w2 ⟨rfl, hb⟩
    have HG2 := Lib.hid (HG1.out.later hb)
    have HL2 := Lib.hid (HL1.out.later hb)
    clear hb HG1 HL1 g0 g1 g2 g3
    obtain ⟨g0, g1, g2, g3⟩ := HG2.out.cells
    rw [Hb.out]
    cases b with
    | true =>
      go_wp2
      go_ret
      exact ⟨ret_int (by rw [HE2.out]; rfl), HG2.out.bel⟩
    | false =>
    go_wp2_with fail
    refine (containsO 64 #[.pointer (some ⟨w.heap.size + 1, 0, none⟩)] (enters_of Try.func64 (by kernel_rfl) rfl) (strayB S.length) _ _ _ O _ HG2.out.sh.ord (fun x W _ hb => stray_any _ _ x W (HL2.out.later hb).lt ((HL2.out.later hb).cell 0))).mono ?_
    rintro e w3 ⟨rfl, hb⟩
    have HG3 := Lib.hid (HG2.out.later hb)
    have HL3 := Lib.hid (HL2.out.later hb)
    clear hb HG2 HL2 g0 g1 g2 g3
    obtain ⟨g0, g1, g2, g3⟩ := HG3.out.cells
    rw [Hc.out]
    cases c with
    | true =>
      go_wp2
      go_ret
      exact ⟨ret_int (by rw [HE2.out]; rfl), HG3.out.bel⟩
    | false =>
    have HE3 := Lib.hid (show shopE S P O = if riseB P then 16 else 0 by rw [HE2.out]; rfl)
    have HS := Lib.hid (show 1 ≤ P.length ∧ P.length ≤ pc by exact ⟨by rw [Hn.out]; exact Hq.out, HG3.out.sh.prc.cap⟩)
    have hs1 := HS.out.1
    have hs2 := HS.out.2
    have hbig := HG3.out.sh.prc.big
    have hwn : ∀ i : Nat, i + 1 < P.length → IntKind.i64.wrap ((i : Int) + 1) = (i : Int) + 1 := fun i hi => by have := HS.out.2; rw [IntKind.wrap_i64]; omega
    have Hwn := Lib.hid hwn
    clear hbig hwn
    go_wp2_with fail
    all_goals
      clear dn d8 hw
      refine loop_n (fun m b W => b.defers = [] ∧ ∃ i : Nat, i + m + 1 = P.length ∧ (∃ q, Hid (GW w W w.heap.size SA S.length sc PA P.length q OA O.length oc S P O)) ∧ Hid (∀ j x y, j < i → P[j]? = some x → P[j + 1]? = some y → ¬ x < y) ∧ Fits (none :: some (.pointer (some ⟨w.heap.size, 0, none⟩)) :: none :: none :: none :: none :: none :: none :: none :: none :: none :: none :: none :: none :: none :: none :: none :: none :: none :: none :: none :: none :: none :: none :: none :: none :: none :: none :: none :: none :: none :: none :: none :: none :: none :: none :: none :: none :: none :: none :: none :: none :: none :: none :: none :: none :: none :: none :: none :: none :: some (.int .i64 ((P.length - 1 : Nat) : Int)) :: some (.int .i64 (i : Nat)) :: none :: none :: none :: none :: none :: none :: none :: none :: none :: none :: none :: none :: none :: none :: none :: []) b.tmps.toList) (P.length - 1) ?_ ?_
      · refine ⟨rfl, 0, by omega, ⟨_, HG3⟩, Lib.hid (fun j x y hj => by omega), ?_⟩
        repeat (first | exact fits_nil | refine fits_none ?_ | refine fits_some ?_)
      clear HG3 HL3 g0 g1 g2 g3
      intro m b W hI K hK
      obtain ⟨hds, i, him, ⟨q, HY⟩, HN, hfit⟩ := hI
      obtain ⟨g, hg⟩ := fits_act hfit
      rw [hds] at hg
      subst hg
      clear hfit hds
      simp only [fillP, Nat.reduceAdd]
      obtain ⟨c0, c1, c2, c3⟩ := HY.out.cells
      by_cases hlt : i + 1 < P.length
      · obtain ⟨rb, ro, x, hA, hrb, hx, p0⟩ := HY.out.sh.prc.ltI (i := i) (by omega)
        obtain ⟨rb', ro', y, hA', hrb', hy, p1⟩ := HY.out.sh.prc.ltI (i := i + 1) hlt
        rw [hA] at hA'
        obtain ⟨rfl, rfl⟩ : rb = rb' ∧ ro = ro' := by simp only [Option.some.injEq, Addr.mk.injEq] at hA'; exact ⟨hA'.1, hA'.2.1⟩
        subst hA
        have i1 : (i : Int) < ((P.length - 1 : Nat) : Int) := by omega
        have i2 : (0 : Int) ≤ (i : Int) := by omega
        have i3 := Hwn.out i hlt
        have i4 : (i : Int) + 1 < (P.length : Int) := by omega
        have i5 : (i : Int) < (P.length : Int) := by omega
        have i6 : (0 : Int) ≤ (i : Int) + 1 := by omega
        have i7 : ((i : Int) + 1).toNat = i + 1 := by omega
        have Hno := Lib.hid (show ¬ x < y → ∀ j x y, j < i + 1 → P[j]? = some x → P[j + 1]? = some y → ¬ x < y from fun h j a b hj h1 h2 => by
          rcases Nat.lt_or_ge j i with h' | h'
          · exact HN.out j a b h' h1 h2
          · obtain rfl : j = i := by omega
            rw [hx] at h1; rw [hy] at h2; cases h1; cases h2; exact h)
        have Hye := Lib.hid (show x < y → shopE S P O = 16 from fun h => by rw [HE3.out, if_pos ((riseB_iff P).2 ⟨i, x, y, hx, hy, h⟩)])
        have Him := Lib.hid (show i + m + 1 = P.length ∧ i + 1 < P.length from ⟨him, hlt⟩)
        clear hx hy him hA' hlt
        go_wp2_with fail
        refine dag 12 (by kernel_rfl) (by kernel_rfl) (.is ?_ :: .is ?_ :: .is ?_ :: .is ?_ :: .is ?_ :: .is ?_ :: .is ?_ :: .is ?_ :: .is ?_ :: .is ?_ :: .is ?_ :: .is ?_ :: []) rfl ?st1 ?ob1
        case st1 => simp [Spec.ok]
        case ob1 =>
          intro env W' hG
          obtain ⟨hc, hf⟩ := bcell hG
          repeat (refine obls_is ?_ ?_; unfold doesAt; go_simp; (try go_bits); (first | (refine ⟨brefl _, ?_⟩; rfl) | rfl); intro K hK; go_simp; refine hK _ ?_; clear hK K)
          refine obls_nil (fun _ => ?_)
          have HY2 := Lib.hid (HY.out.later hG)
          clear hc hf hG c0 c1 c2 c3 p0 p1
          cases hd : decide (x < y) with
          | true =>
            have HR := Lib.hid (Hye.out (by simpa using hd))
            clear hK
            go_wp2
            go_ret
            exact ⟨ret_int HR.out.symm, HY2.out.bel⟩
          | false =>
            have HN2 := Lib.hid (Hno.out (by simpa using hd))
            go_wp2
            refine hK _ _ (m - 1) (by have := Him.out; omega) ⟨rfl, i + 1, by have := Him.out; omega, ⟨_, HY2⟩, HN2, ?_⟩
            repeat (first | exact fits_nil | refine fits_none ?_ | refine fits_some ?_)
      · have i1 : ¬ (i : Int) < ((P.length - 1 : Nat) : Int) := by omega
        have HR := Lib.hid (show shopE S P O = 0 by
          rw [HE3.out, if_neg]
          intro h
          obtain ⟨j, x, y, h1, h2, h3⟩ := (riseB_iff P).1 h
          have := (List.getElem?_eq_some_iff.1 h2).1
          exact HN.out j x y (by omega) h1 h2 h3)
        clear him hlt hK
        go_wp2
        go_ret
        exact ⟨ret_int HR.out.symm, HY.out.bel⟩
end Go.Proofs.Ytmfiggbobaihcaa
