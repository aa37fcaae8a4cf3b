/- The walk of ClipBests. -/
import Derived.Test.YtjmphmnimnbgkaaRefFirst
import Derived.Test.YtjmphmnimnbgkaaPath
import Derived.Test.YtjmphmnimnbgkaaBad
import Derived.Test.YtjmphmnimnbgkaaWorthOk
import Derived.Test.YtjmphmnimnbgkaaCuts
import Derived.Test.YtjmphmnimnbgkaaSheetsEq
namespace Go.Proofs.Ytjmphmnimnbgkaa
open Go.RowKit Go.Shelf

def worthP (L : Int) (fs : List Int) (ks : List Kd) : Int × Int := orE L fs ks fun n => (behindAt n (Fst fs n) ks n 0, 0)
def countP (L : Int) (fs : List Int) (ks : List Kd) : Int × Int := orE L fs ks fun n => (manyAt n (Fst fs n) ks (behindAt n (Fst fs n) ks n) n 0, 0)
def firstP (L : Int) (fs : List Int) (ks : List Kd) : List Sh := if rkE L fs ks = 0 then firstAt L.toNat (Fst fs L.toNat) ks (behindAt L.toNat (Fst fs L.toNat) ks L.toNat) L.toNat 0 else []
section
variable (L : Int) (FA : Option Addr) (fn fc : Nat) (fs : List Int) (KA : Option Addr) (kc : Nat) (ks : List Kd) (w : World) (hfs : Sl 1 encI w w.heap.size FA fn fc fs) (hks : Sl 3 encK w w.heap.size KA ks.length kc ks)
include hfs hks
theorem worth_all : Calls Try.prog 24 #[.agg #[.int .i64 L, .slice FA fn fc], .slice KA ks.length kc] w fun e w' => e = .returned (.tuple #[.int .i64 (worthP L fs ks).1, .int .i64 (worthP L fs ks).2]) ∧ Below w.heap.size w w' := by
  unfold worthP
  by_cases h : rkE L fs ks = 0
  · obtain ⟨n, rfl, _, _, hk⟩ := valid_nat h
    rw [orE_ok h, ← ahead_behind hk]
    exact Worth_ok n FA fn fc fs KA kc ks w hfs hks h
  · rw [orE_bad h]
    exact Worth_bad L FA fn fc fs KA kc ks w hfs hks h
theorem refWorth_all : Calls Try.prog 25 #[.agg #[.int .i64 L, .slice FA fn fc], .slice KA ks.length kc] w fun e w' => e = .returned (.tuple #[.int .i64 (worthP L fs ks).1, .int .i64 (worthP L fs ks).2]) ∧ Below w.heap.size w w' := by
  unfold worthP
  by_cases h : rkE L fs ks = 0
  · obtain ⟨n, rfl, _⟩ := valid_nat h
    rw [orE_ok h]
    exact refWorth_ok n FA fn fc fs KA kc ks w hfs hks h
  · rw [orE_bad h]
    exact refWorth_bad L FA fn fc fs KA kc ks w hfs hks h
theorem count_all : Calls Try.prog 28 #[.agg #[.int .i64 L, .slice FA fn fc], .slice KA ks.length kc] w fun e w' => e = .returned (.tuple #[.int .i64 (countP L fs ks).1, .int .i64 (countP L fs ks).2]) ∧ Below w.heap.size w w' := by
  unfold countP
  by_cases h : rkE L fs ks = 0
  · obtain ⟨n, rfl, _⟩ := valid_nat h
    rw [orE_ok h]
    exact Count_ok n FA fn fc fs KA kc ks w hfs hks h
  · rw [orE_bad h]
    exact Count_bad L FA fn fc fs KA kc ks w hfs hks h
theorem refCount_all : Calls Try.prog 29 #[.agg #[.int .i64 L, .slice FA fn fc], .slice KA ks.length kc] w fun e w' => e = .returned (.tuple #[.int .i64 (countP L fs ks).1, .int .i64 (countP L fs ks).2]) ∧ Below w.heap.size w w' := by
  unfold countP
  by_cases h : rkE L fs ks = 0
  · obtain ⟨n, rfl, _⟩ := valid_nat h
    rw [orE_ok h]
    exact refCount_ok n FA fn fc fs KA kc ks w hfs hks h
  · rw [orE_bad h]
    exact refCount_bad L FA fn fc fs KA kc ks w hfs hks h
theorem first_all : Calls Try.prog 26 #[.agg #[.int .i64 L, .slice FA fn fc], .slice KA ks.length kc] w fun e w' => ∃ G n c, e = .returned (.tuple #[.slice G n c, .int .i64 (rkE L fs ks)]) ∧ Below w.heap.size w w' ∧ Sl 2 encS w' w'.heap.size G n c (firstP L fs ks) := by
  unfold firstP
  by_cases h : rkE L fs ks = 0
  · obtain ⟨n, rfl, _⟩ := valid_nat h
    rw [if_pos h, h]
    refine (Cuts_ok n FA fn fc fs KA kc ks w hfs hks h).mono ?_
    rintro e w' ⟨G, he, hb, hS⟩
    exact ⟨_, _, _, he, hb, hS⟩
  · rw [if_neg h]
    refine (Cuts_bad L FA fn fc fs KA kc ks w hfs hks h).mono ?_
    rintro e w' ⟨he, hb⟩
    obtain ⟨G, n, c, hv, hS⟩ := own_slS (xs := []) (World.ownsRow_nil w' 0 0 2)
    cases hv
    exact ⟨_, _, _, he, hb, hS⟩
theorem refFirst_all : Calls Try.prog 27 #[.agg #[.int .i64 L, .slice FA fn fc], .slice KA ks.length kc] w fun e w' => ∃ G n c, e = .returned (.tuple #[.slice G n c, .int .i64 (rkE L fs ks)]) ∧ Below w.heap.size w w' ∧ Sl 2 encS w' w'.heap.size G n c (firstP L fs ks) := by
  unfold firstP
  by_cases h : rkE L fs ks = 0
  · obtain ⟨n, rfl, _⟩ := valid_nat h
    rw [if_pos h, h]
    refine (refFirst_ok n FA fn fc fs KA kc ks w hfs hks h).mono ?_
    rintro e w' ⟨v, he, hb, hS⟩
    obtain ⟨G, m, c, rfl, hS2⟩ := own_slS hS
    exact ⟨_, _, _, he, hb, hS2⟩
  · rw [if_neg h]
    refine (refFirst_bad L FA fn fc fs KA kc ks w hfs hks h).mono ?_
    rintro e w' ⟨he, hb⟩
    obtain ⟨G, n, c, hv, hS⟩ := own_slS (xs := []) (World.ownsRow_nil w' 0 0 2)
    cases hv
    exact ⟨_, _, _, he, hb, hS⟩
end

set_option maxRecDepth 100000 in
set_option maxHeartbeats 4000000 in
theorem bests_law (L : Int) (FA : Option Addr) (fn fc : Nat) (fs : List Int) (KA : Option Addr) (kc : Nat) (ks : List Kd) (w : World) (hfs : Sl 1 encI w w.heap.size FA fn fc fs) (hks : Sl 3 encK w w.heap.size KA ks.length kc ks) :
    Calls Try.prog 4 #[.agg #[.int .i64 L, .slice FA fn fc], .slice KA ks.length kc] w fun e w' => e = .returned (.bool true) ∧ Below w.heap.size w w' := by
  have hB := balloc (brefl w) (.cells #[.int .i64 L, .slice FA fn fc] 24)
  have HK := Lib.hid (show LW w (w.alloc (.cells #[.int .i64 L, .slice FA fn fc] 24)) w.heap.size L FA fn fc fs KA kc ks from ⟨hB, Blk.new w _ _, hfs.later hB, hks.later hB⟩)
  clear hB hfs hks
  cases hg : gtB fn ks.length with
  | true =>
    have hgr := Lib.hid (fun W => great_any L FA fn fc KA ks.length kc W)
    rw [hg] at hgr
    go_enter Try.func4, Try.ntmps4
    go_wp2_with fail
    refine (hgr.out _).mono ?_
    rintro e w1 ⟨rfl, hb1⟩
    have HB := Lib.hid (Below.later HK.out.bel hb1)
    clear hb1
    go_wp2_with fail
    refine (works_any _).mono ?_
    rintro e w2 ⟨rfl, hb2⟩
    have HB2 := Lib.hid (Below.later HB.out hb2)
    clear hb2
    go_wp2
    go_ret
    exact ⟨rfl, HB2.out⟩
  | false =>
    have hgr := Lib.hid (fun W => great_any L FA fn fc KA ks.length kc W)
    rw [hg] at hgr
    obtain ⟨r, hr⟩ : ∃ r, worthP L fs ks = r := ⟨_, rfl⟩
    obtain ⟨q, hq⟩ : ∃ q, countP L fs ks = q := ⟨_, rfl⟩
    obtain ⟨re, hre⟩ : ∃ re, rkE L fs ks = re := ⟨_, rfl⟩
    have Hr := Lib.hid hr
    have Hq := Lib.hid hq
    have Hre := Lib.hid hre
    clear hr hq hre hg
    go_enter Try.func4, Try.ntmps4
    go_wp2_with fail
    refine (hgr.out _).mono ?_
    rintro e w1 ⟨rfl, hb1⟩
    have HK1 := Lib.hid (HK.out.later hb1)
    obtain ⟨c0, c1, c2⟩ := HK1.out.cells
    clear hb1 HK
    go_wp2_with fail
    refine (worth_all L FA fn fc fs KA kc ks _ HK1.out.fsl HK1.out.ksl).mono ?_
    rintro e w2 ⟨rfl, hb2⟩
    rw [Hr.out]
    have HK2 := Lib.hid (HK1.out.later hb2)
    clear hb2 HK1 c0 c1 c2
    obtain ⟨c0, c1, c2⟩ := HK2.out.cells
    go_wp2_with fail
    refine (refWorth_all L FA fn fc fs KA kc ks _ HK2.out.fsl HK2.out.ksl).mono ?_
    rintro e w3 ⟨rfl, hb3⟩
    rw [Hr.out]
    have HK3 := Lib.hid (HK2.out.later hb3)
    clear hb3 HK2 c0 c1 c2
    obtain ⟨c0, c1, c2⟩ := HK3.out.cells
    go_wp2_with fail
    refine (first_all L FA fn fc fs KA kc ks _ HK3.out.fsl HK3.out.ksl).mono ?_
    rintro e w4 ⟨G4, n4, d4, rfl, hb4, hS4⟩
    rw [Hre.out]
    have HK4 := Lib.hid (HK3.out.later hb4)
    have HS4 := Lib.hid hS4
    clear hb4 HK3 c0 c1 c2 hS4
    obtain ⟨c0, c1, c2⟩ := HK4.out.cells
    go_wp2_with fail
    refine (refFirst_all L FA fn fc fs KA kc ks _ HK4.out.fsl HK4.out.ksl).mono ?_
    rintro e w5 ⟨G5, n5, d5, rfl, hb5, hS5⟩
    rw [Hre.out]
    have HK5 := Lib.hid (HK4.out.later hb5)
    have HS45 := Lib.hid (HS4.out.later hb5)
    have HS5 := Lib.hid hS5
    clear hb5 HK4 c0 c1 c2 HS4 hS5
    obtain ⟨c0, c1, c2⟩ := HK5.out.cells
    go_wp2_with fail
    refine (count_all L FA fn fc fs KA kc ks _ HK5.out.fsl HK5.out.ksl).mono ?_
    rintro e w6 ⟨rfl, hb6⟩
    rw [Hq.out]
    have HK6 := Lib.hid (HK5.out.later hb6)
    have HS46 := Lib.hid (HS45.out.later hb6)
    have HS56 := Lib.hid (HS5.out.later hb6)
    clear hb6 HK5 c0 c1 c2 HS45 HS5
    obtain ⟨c0, c1, c2⟩ := HK6.out.cells
    go_wp2_with fail
    refine (refCount_all L FA fn fc fs KA kc ks _ HK6.out.fsl HK6.out.ksl).mono ?_
    rintro e w7 ⟨rfl, hb7⟩
    rw [Hq.out]
    have HK7 := Lib.hid (HK6.out.later hb7)
    have HS47 := Lib.hid (HS46.out.later hb7)
    have HS57 := Lib.hid (HS56.out.later hb7)
    clear hb7 HK6 c0 c1 c2 HS46 HS56
    obtain ⟨c0, c1, c2⟩ := HK7.out.cells
    go_wp2_with fail
    refine (sheetsEq_any G4 n4 d4 _ G5 n5 d5 _ _ HS47.out HS57.out).mono ?_
    rintro e w8 ⟨rfl, hb8⟩
    rw [decide_eq_true rfl]
    have HK8 := Lib.hid (HK7.out.later hb8)
    clear hb8 HK7 HS47 HS57 c0 c1 c2
    go_wp2_with fail
    refine (works_any _).mono ?_
    rintro e w9 ⟨rfl, hb9⟩
    have HB := Lib.hid (HK8.out.later hb9).bel
    clear hb9 HK8
    go_wp2
    go_ret
    exact ⟨rfl, HB.out⟩
end Go.Proofs.Ytjmphmnimnbgkaa
