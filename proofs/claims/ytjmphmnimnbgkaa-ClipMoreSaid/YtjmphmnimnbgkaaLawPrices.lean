/- The walk of ClipPrices. -/
import Derived.Test.YtjmphmnimnbgkaaLawBests
import Derived.Test.YtjmphmnimnbgkaaPrices
import Derived.Test.YtjmphmnimnbgkaaPath
namespace Go.Proofs.Ytjmphmnimnbgkaa
open Go.RowKit Go.Shelf

/-! ### Plain: the prices that are returned prove what best cuts are worth -/
theorem prices_at (A : Nat → Int) {n j : Nat} (h : j < n) : (pricesAt A n)[j]? = some (A (j + 1) - A j) := by
  unfold pricesAt
  rw [List.getElem?_map, List.getElem?_range h]; rfl
theorem psum_prices {A : Nat → Int} (h0 : A 0 = 0) {n : Nat} : ∀ j, j ≤ n → psum (pricesAt A n) j = A j := by
  intro j
  induction j with
  | zero => intro _; rw [psum_zero, h0]
  | succ j ih =>
    intro h
    rw [psum_succ (prices_at A (by omega)), ih (by omega)]
    omega
theorem prices_prove {L : Nat} {F : Nat → Int} {ks : List Kd} (hk : KOk ks) (hL : L ≤ 24) : pricesP L F ks (pricesAt (aheadAt L F ks L) L) = (behindAt L F ks L 0, 0) := by
  have hU := ahead_upto (L := L) (F := F) hk
  have hbd := aheadAt_bd (L := L) (F := F) hk L
  have hS := psum_prices (A := aheadAt L F ks L) hU.zero (n := L)
  have hlen := pricesAt_len (aheadAt L F ks L) L
  rw [pricesP_cov hlen, if_pos, hS L (Nat.le_refl _), ahead_behind hk]
  · refine cover_yes fun fr k hf hkl => ?_
    unfold coverAt
    cases hc : canI L F ks fr k with
    | false => rfl
    | true =>
      obtain ⟨x, hx, hcb, hd⟩ := canI_at hc
      have h1 := hU.sheet fr k x hx hcb
      have hle := (canB_iff.1 hcb).1
      have hb := hk.bd hx
      rw [hd, hS _ (by omega), hS _ (by omega)]
      simp
      omega
  · refine any_out fun i x hi hx => ?_
    rw [hlen] at hi
    rw [prices_at _ hi] at hx
    cases hx
    have h1 := hU.waste i hi
    have h2 := hbd i
    have h3 := hbd (i + 1)
    simp [outP]
    omega

section
variable (L : Int) (FA : Option Addr) (fn fc : Nat) (fs : List Int) (KA : Option Addr) (kc : Nat) (ks : List Kd) (w : World) (hfs : Sl 1 encI w w.heap.size FA fn fc fs) (hks : Sl 3 encK w w.heap.size KA ks.length kc ks)
include hfs hks
/-- The prices that are returned, or the error. -/
def listP (L : Int) (fs : List Int) (ks : List Kd) : List Int := if rkE L fs ks = 0 then pricesAt (aheadAt L.toNat (Fst fs L.toNat) ks L.toNat) L.toNat else []
theorem prices_all : Calls Try.prog 33 #[.agg #[.int .i64 L, .slice FA fn fc], .slice KA ks.length kc] w fun e w' => ∃ G c, e = .returned (.tuple #[.slice G (listP L fs ks).length c, .int .i64 (rkE L fs ks)]) ∧ Below w.heap.size w w' ∧ (rkE L fs ks = 0 → Sl 1 encI w' w'.heap.size G (listP L fs ks).length c (listP L fs ks)) := by
  unfold listP
  by_cases h : rkE L fs ks = 0
  · obtain ⟨n, rfl, _⟩ := valid_nat h
    rw [if_pos h, h, Int.toNat_natCast, pricesAt_len]
    refine (Prices_ok n FA fn fc fs KA kc ks w hfs hks h).mono ?_
    rintro e w' ⟨G, c, he, hb, hS⟩
    exact ⟨G, c, he, hb, fun _ => hS⟩
  · rw [if_neg h]
    refine (Prices_bad L FA fn fc fs KA kc ks w hfs hks h).mono ?_
    rintro e w' ⟨he, hb⟩
    exact ⟨_, _, he, hb, fun h0 => absurd h0 h⟩
end

theorem worthP_err (L : Int) (fs : List Int) (ks : List Kd) : (worthP L fs ks).2 = rkE L fs ks := by
  unfold worthP orE
  split
  · rename_i h; exact h.symm
  · rfl
theorem listP_len {L : Int} {fs : List Int} {ks : List Kd} : (listP L fs ks).length ≤ 24 := by
  unfold listP
  split
  · rename_i h
    obtain ⟨n, rfl, _, h2, _⟩ := valid_nat h
    rw [Int.toNat_natCast, pricesAt_len]; exact h2
  · exact Nat.zero_le _
theorem listP_no {L : Int} {fs : List Int} {ks : List Kd} (h : rkE L fs ks ≠ 0) : (listP L fs ks).length = 0 := by unfold listP; rw [if_neg h]; rfl
theorem listP_ok {L : Int} {fs : List Int} {ks : List Kd} (h : rkE L fs ks = 0) : (orE L fs ks fun n => pricesP n (Fst fs n) ks (listP L fs ks)) = worthP L fs ks := by
  unfold listP worthP
  obtain ⟨n, rfl, _, h2, hk⟩ := valid_nat h
  rw [orE_ok h, orE_ok h, if_pos h, Int.toNat_natCast]
  exact prices_prove hk h2

set_option maxRecDepth 100000 in
set_option maxHeartbeats 4000000 in
theorem prices_law (L : Int) (FA : Option Addr) (fn fc : Nat) (fs : List Int) (KA : Option Addr) (kc : Nat) (ks : List Kd) (CA : Option Addr) (cn cc : Nat) (ps : List Int) (w : World) (hfs : Sl 1 encI w w.heap.size FA fn fc fs) (hks : Sl 3 encK w w.heap.size KA ks.length kc ks) (hC : Sl 1 encI w w.heap.size CA cn cc ps) :
    Calls Try.prog 5 #[.agg #[.int .i64 L, .slice FA fn fc], .slice KA ks.length kc, .slice CA cn cc] w fun e w' => e = .returned (.bool true) ∧ Below w.heap.size w w' := by
  have hB := balloc (brefl w) (.cells #[.int .i64 L, .slice FA fn fc] 24)
  have HK := Lib.hid (show LW w (w.alloc (.cells #[.int .i64 L, .slice FA fn fc] 24)) w.heap.size L FA fn fc fs KA kc ks from ⟨hB, Blk.new w _ _, hfs.later hB, hks.later hB⟩)
  have HC := Lib.hid (hC.later hB)
  clear hB hfs hks hC
  cases hg : gtB fn ks.length with
  | true =>
    have hgr := Lib.hid (fun W => great_any L FA fn fc KA ks.length kc W)
    rw [hg] at hgr
    go_enter Try.func5, Try.ntmps5
    go_wp2_with fail
    refine (hgr.out _).mono ?_
    rintro e w1 ⟨rfl, hb1⟩
    have HB := Lib.hid (Below.later HK.out.bel hb1)
    clear hb1
    go_wp2_with fail
    refine (works_any _).mono ?_
    rintro e w2 ⟨rfl, hb2⟩
    have HB2 := Lib.hid (Below.later HB.out hb2)
    clear hb2
    go_wp2
    go_ret
    exact ⟨rfl, HB2.out⟩
  | false =>
    have hgr := Lib.hid (fun W => great_any L FA fn fc KA ks.length kc W)
    rw [hg] at hgr
    cases hcn : decide ((40 : Int) < (cn : Int)) with
    | true =>
      go_enter Try.func5, Try.ntmps5
      go_wp2_with fail
      refine (hgr.out _).mono ?_
      rintro e w1 ⟨rfl, hb1⟩
      have HB := Lib.hid (Below.later HK.out.bel hb1)
      clear hb1
      go_wp2_with fail
      refine (works_any _).mono ?_
      rintro e w2 ⟨rfl, hb2⟩
      have HB2 := Lib.hid (Below.later HB.out hb2)
      clear hb2
      go_wp2
      go_ret
      exact ⟨rfl, HB2.out⟩
    | false =>
      have hll := listP_len (L := L) (fs := fs) (ks := ks)
      have hlp : rkE L fs ks = 0 → (orE L fs ks fun n => pricesP n (Fst fs n) ks (listP L fs ks)) = worthP L fs ks := listP_ok
      have hln : rkE L fs ks ≠ 0 → (listP L fs ks).length = 0 := listP_no
      have hwe := worthP_err L fs ks
      have hpr := Lib.hid (fun W h1 h2 => prices_all L FA fn fc fs KA kc ks W h1 h2)
      obtain ⟨l, hl⟩ : ∃ l, listP L fs ks = l := ⟨_, rfl⟩
      obtain ⟨r, hr⟩ : ∃ r, (orE L fs ks fun n => pricesP n (Fst fs n) ks ps) = r := ⟨_, rfl⟩
      obtain ⟨q, hq⟩ : ∃ q, worthP L fs ks = q := ⟨_, rfl⟩
      obtain ⟨re, hre⟩ : ∃ re, rkE L fs ks = re := ⟨_, rfl⟩
      rw [hl] at hll hlp hln
      rw [hre] at hwe hlp hln
      rw [hq] at hwe hlp
      rw [hre, hl] at hpr
      obtain ⟨n, hn⟩ : ∃ n, l.length = n := ⟨_, rfl⟩
      rw [hn] at hll hln
      have hd40 : decide ((40 : Int) < (n : Int)) = false := by simp; omega
      have Hr := Lib.hid hr
      have Hq := Lib.hid hq
      have Hlp := Lib.hid hlp
      have Hn := Lib.hid hn
      rw [hn] at hpr
      clear hr hq hg hlp hl hre hn hll
      go_enter Try.func5, Try.ntmps5
      go_wp2_with fail
      refine (hgr.out _).mono ?_
      rintro e w1 ⟨rfl, hb1⟩
      have HK1 := Lib.hid (HK.out.later hb1)
      have HC1 := Lib.hid (HC.out.later hb1)
      obtain ⟨c0, c1, c2⟩ := HK1.out.cells
      clear hb1 HK HC
      go_wp2_with fail
      refine (checkPrices_all L FA fn fc fs KA kc ks _ HK1.out.fsl HK1.out.ksl CA cn cc ps HC1.out).mono ?_
      rintro e w2 ⟨rfl, hb2⟩
      rw [Hr.out]
      have HK2 := Lib.hid (HK1.out.later hb2)
      have HC2 := Lib.hid (HC1.out.later hb2)
      clear hb2 HK1 HC1 c0 c1 c2
      obtain ⟨c0, c1, c2⟩ := HK2.out.cells
      go_wp2_with fail
      refine (refPrices_all L FA fn fc fs KA kc ks _ HK2.out.fsl HK2.out.ksl CA cn cc ps HC2.out).mono ?_
      rintro e w3 ⟨rfl, hb3⟩
      rw [Hr.out]
      have HK3 := Lib.hid (HK2.out.later hb3)
      clear hb3 HK2 HC2 c0 c1 c2
      obtain ⟨c0, c1, c2⟩ := HK3.out.cells
      go_wp2_with fail
      refine (hpr.out _ HK3.out.fsl HK3.out.ksl).mono ?_
      rintro e w4 ⟨G, d, rfl, hb4, hS4⟩
      have HK4 := Lib.hid (HK3.out.later hb4)
      have HS4 := Lib.hid hS4
      clear hb4 HK3 c0 c1 c2 hS4
      obtain ⟨c0, c1, c2⟩ := HK4.out.cells
      go_wp2_with fail
      refine (refWorth_all L FA fn fc fs KA kc ks _ HK4.out.fsl HK4.out.ksl).mono ?_
      rintro e w5 ⟨rfl, hb5⟩
      rw [Hq.out, hwe]
      have HK5 := Lib.hid (HK4.out.later hb5)
      have HS5 := Lib.hid (fun h => (HS4.out h).later hb5)
      clear hb5 HK4 c0 c1 c2 HS4
      obtain ⟨c0, c1, c2⟩ := HK5.out.cells
      by_cases h0 : re = 0
      · subst h0
        have hS5 := HS5.out rfl
        have hlp := Hlp.out rfl
        have HS := Lib.hid hS5
        have Hlp2 := Lib.hid hlp
        clear hS5 hlp HS5 Hlp hpr hln
        go_wp2_with fail
        refine (refPrices_all L FA fn fc fs KA kc ks _ HK5.out.fsl HK5.out.ksl G n d l HS.out).mono ?_
        rintro e w6 ⟨rfl, hb6⟩
        rw [Hlp2.out, hwe]
        have HK6 := Lib.hid (HK5.out.later hb6)
        clear hb6 HK5 c0 c1 c2 HS hwe
        go_wp2_with fail
        refine (works_any _).mono ?_
        rintro e w7 ⟨rfl, hb7⟩
        have HB := Lib.hid (HK6.out.later hb7).bel
        clear hb7 HK6
        go_wp2
        go_ret
        exact ⟨rfl, HB.out⟩
      · obtain rfl := hln h0
        have hn3 : (re != 0) = true := by simpa using h0
        clear hln h0 hpr HS5 Hlp hwe
        go_wp2_with fail
        refine (works_any _).mono ?_
        rintro e w6 ⟨rfl, hb6⟩
        have HB := Lib.hid (HK5.out.later hb6).bel
        clear hb6 HK5 c0 c1 c2
        go_wp2
        go_ret
        exact ⟨rfl, HB.out⟩
end Go.Proofs.Ytjmphmnimnbgkaa
