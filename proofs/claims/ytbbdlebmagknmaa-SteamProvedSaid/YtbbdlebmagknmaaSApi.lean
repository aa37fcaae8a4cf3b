/- steam's Late, Hours, Fewest, Need, CheckHours: the error, or what they return. -/
import Derived.Test.YtbbdlebmagknmaaSKeepF
namespace Go.Proofs.Ytbbdlebmagknmaa
open Go.RowKit Go.Shelf

theorem bad_win {x : Rg} (h : badR x = false) : 0 ≤ x.lo ∧ x.lo ≤ x.hi ∧ x.hi ≤ 100 := by
  unfold badR at h
  have h1 : winB x = true := by simpa using h
  rw [win_alt] at h1
  simp only [Bool.and_eq_true, decide_eq_true_eq] at h1
  omega
theorem yard_ok {L : Int} {rs : List Rg} (h : yardE L rs = 0) : (1 ≤ L ∧ L ≤ 10) ∧ RsOk rs := by
  unfold yardE at h
  split at h
  · rename_i h1
    have hL := (inR_iff 1 10 L).1 h1
    split at h
    · cases h
    · rename_i h2
      split at h
      · cases h
      · rename_i h3
        refine ⟨hL, by omega, fun x hx => bad_win ?_⟩
        cases hb : badR x with
        | false => rfl
        | true => exact absurd (List.any_eq_true.2 ⟨x, hx, hb⟩) h3
  · cases h
theorem yard_nat {L : Int} {rs : List Rg} (h : yardE L rs = 0) : ∃ n : Nat, L = n ∧ (1 ≤ n ∧ n ≤ 10) ∧ RsOk rs := by
  obtain ⟨h1, h2⟩ := yard_ok h
  exact ⟨L.toNat, by omega, by omega, h2⟩

set_option maxRecDepth 100000 in
set_option maxHeartbeats 2000000 in
theorem late_bad (L : Int) (A : Option Addr) (n c : Nat) (rs : List Rg)  (w : World) (hs : Sl 2 encR w w.heap.size A n c rs) (hne : yardE L rs ≠ 0) :
    Calls Try.prog 33 #[.agg #[.int .i64 L, .slice A n c]] w fun e w' => e = .returned (.tuple #[.slice none 0 0, .int .i64 (yardE L rs)]) ∧ Below w.heap.size w w' := by
  obtain rfl := hs.len
  have HY := Lib.hid (show YB w (w.alloc (.cells #[.int .i64 L, .slice A rs.length c] 24)) L A rs.length c from ⟨balloc (brefl w) _, Blk.new w _ _⟩)
  have hc := Lib.hid (fun W hb => open_bad L A rs.length c rs W (hs.later (w' := W) hb) hne)
  obtain ⟨q, hq⟩ : ∃ q, yardE L rs = q := ⟨_, rfl⟩
  rw [hq] at hc hne ⊢
  have d1 : (q != 0) = true := by simpa using hne
  have d2 : (q == 0) = false := by simpa using hne
  clear hs hq hne
  go_enter Try.func33, Try.ntmps33
  go_wp2_with fail
  refine (hc.out _ HY.out.bel).mono ?_
  rintro e w1 ⟨rfl, hb1⟩
  have HB := Lib.hid (Below.later (HY.out.bel) hb1)
  clear hb1
  go_wp2
  go_ret2
  exact ⟨rfl, HB.out⟩

set_option maxRecDepth 100000 in
set_option maxHeartbeats 2000000 in
theorem hours_bad (L : Int) (A : Option Addr) (n c : Nat) (rs : List Rg)  (w : World) (hs : Sl 2 encR w w.heap.size A n c rs) (hne : yardE L rs ≠ 0) :
    Calls Try.prog 29 #[.agg #[.int .i64 L, .slice A n c]] w fun e w' => e = .returned (.tuple #[.slice none 0 0, .int .i64 (yardE L rs)]) ∧ Below w.heap.size w w' := by
  obtain rfl := hs.len
  have HY := Lib.hid (show YB w (w.alloc (.cells #[.int .i64 L, .slice A rs.length c] 24)) L A rs.length c from ⟨balloc (brefl w) _, Blk.new w _ _⟩)
  have hc := Lib.hid (fun W hb => open_bad L A rs.length c rs W (hs.later (w' := W) hb) hne)
  obtain ⟨q, hq⟩ : ∃ q, yardE L rs = q := ⟨_, rfl⟩
  rw [hq] at hc hne ⊢
  have d1 : (q != 0) = true := by simpa using hne
  have d2 : (q == 0) = false := by simpa using hne
  clear hs hq hne
  go_enter Try.func29, Try.ntmps29
  go_wp2_with fail
  refine (hc.out _ HY.out.bel).mono ?_
  rintro e w1 ⟨rfl, hb1⟩
  have HB := Lib.hid (Below.later (HY.out.bel) hb1)
  clear hb1
  go_wp2
  go_ret2
  exact ⟨rfl, HB.out⟩

set_option maxRecDepth 100000 in
set_option maxHeartbeats 2000000 in
theorem proof__bad (L : Int) (A : Option Addr) (n c : Nat) (rs : List Rg)  (w : World) (hs : Sl 2 encR w w.heap.size A n c rs) (hne : yardE L rs ≠ 0) :
    Calls Try.prog 30 #[.agg #[.int .i64 L, .slice A n c]] w fun e w' => e = .returned (.tuple #[.slice none 0 0, .int .i64 (yardE L rs)]) ∧ Below w.heap.size w w' := by
  obtain rfl := hs.len
  have HY := Lib.hid (show YB w (w.alloc (.cells #[.int .i64 L, .slice A rs.length c] 24)) L A rs.length c from ⟨balloc (brefl w) _, Blk.new w _ _⟩)
  have hc := Lib.hid (fun W hb => open_bad L A rs.length c rs W (hs.later (w' := W) hb) hne)
  obtain ⟨q, hq⟩ : ∃ q, yardE L rs = q := ⟨_, rfl⟩
  rw [hq] at hc hne ⊢
  have d1 : (q != 0) = true := by simpa using hne
  have d2 : (q == 0) = false := by simpa using hne
  clear hs hq hne
  go_enter Try.func30, Try.ntmps30
  go_wp2_with fail
  refine (hc.out _ HY.out.bel).mono ?_
  rintro e w1 ⟨rfl, hb1⟩
  have HB := Lib.hid (Below.later (HY.out.bel) hb1)
  clear hb1
  go_wp2
  go_ret2
  exact ⟨rfl, HB.out⟩

set_option maxRecDepth 100000 in
set_option maxHeartbeats 2000000 in
theorem checkHours_bad (L : Int) (A : Option Addr) (n c : Nat) (rs : List Rg) (v : Value) (w : World) (hs : Sl 2 encR w w.heap.size A n c rs) (hne : yardE L rs ≠ 0) :
    Calls Try.prog 19 #[.agg #[.int .i64 L, .slice A n c], v] w fun e w' => e = .returned (.tuple #[.int .i64 0, .int .i64 (yardE L rs)]) ∧ Below w.heap.size w w' := by
  obtain rfl := hs.len
  have HY := Lib.hid (show YB w (w.alloc (.cells #[.int .i64 L, .slice A rs.length c] 24)) L A rs.length c from ⟨balloc (brefl w) _, Blk.new w _ _⟩)
  have hc := Lib.hid (fun W hb => open_bad L A rs.length c rs W (hs.later (w' := W) hb) hne)
  obtain ⟨q, hq⟩ : ∃ q, yardE L rs = q := ⟨_, rfl⟩
  rw [hq] at hc hne ⊢
  have d1 : (q != 0) = true := by simpa using hne
  have d2 : (q == 0) = false := by simpa using hne
  clear hs hq hne
  go_enter Try.func19, Try.ntmps19
  go_wp2_with fail
  refine (hc.out _ HY.out.bel).mono ?_
  rintro e w1 ⟨rfl, hb1⟩
  have HB := Lib.hid (Below.later (HY.out.bel) hb1)
  clear hb1
  go_wp2
  go_ret2
  exact ⟨rfl, HB.out⟩

set_option maxRecDepth 100000 in
set_option maxHeartbeats 2000000 in
theorem need__bad (L : Int) (A : Option Addr) (n c : Nat) (rs : List Rg) (wd : Rg) (w : World) (hs : Sl 2 encR w w.heap.size A n c rs) (hne : yardE L rs ≠ 0) :
    Calls Try.prog 21 #[.agg #[.int .i64 L, .slice A n c], .agg #[.int .i64 wd.lo, .int .i64 wd.hi]] w fun e w' => e = .returned (.tuple #[.int .i64 0, .int .i64 (yardE L rs)]) ∧ Below w.heap.size w w' := by
  obtain rfl := hs.len
  have HY := Lib.hid (show YB w (w.alloc (.cells #[.int .i64 L, .slice A rs.length c] 24)) L A rs.length c from ⟨balloc (brefl w) _, Blk.new w _ _⟩)
  have hc := Lib.hid (fun W hb => open_bad L A rs.length c rs W (hs.later (w' := W) hb) hne)
  obtain ⟨q, hq⟩ : ∃ q, yardE L rs = q := ⟨_, rfl⟩
  rw [hq] at hc hne ⊢
  have d1 : (q != 0) = true := by simpa using hne
  have d2 : (q == 0) = false := by simpa using hne
  clear hs hq hne
  go_enter Try.func21, Try.ntmps21
  go_wp2_with fail
  refine (hc.out _ (balloc (HY.out.bel) (.cells #[.int .i64 wd.lo, .int .i64 wd.hi] 27))).mono ?_
  rintro e w1 ⟨rfl, hb1⟩
  have HB := Lib.hid (Below.later ((balloc (HY.out.bel) (.cells #[.int .i64 wd.lo, .int .i64 wd.hi] 27))) hb1)
  clear hb1
  go_wp2
  go_ret2
  exact ⟨rfl, HB.out⟩

set_option maxRecDepth 100000 in
set_option maxHeartbeats 2000000 in
theorem checkProof_bad (L : Int) (A : Option Addr) (n c : Nat) (rs : List Rg) (v : Value) (w : World) (hs : Sl 2 encR w w.heap.size A n c rs) (hne : yardE L rs ≠ 0) :
    Calls Try.prog 27 #[.agg #[.int .i64 L, .slice A n c], v] w fun e w' => e = .returned (.tuple #[.int .i64 0, .int .i64 (yardE L rs)]) ∧ Below w.heap.size w w' := by
  obtain rfl := hs.len
  have HY := Lib.hid (show YB w (w.alloc (.cells #[.int .i64 L, .slice A rs.length c] 24)) L A rs.length c from ⟨balloc (brefl w) _, Blk.new w _ _⟩)
  have hc := Lib.hid (fun W hb => open_bad L A rs.length c rs W (hs.later (w' := W) hb) hne)
  obtain ⟨q, hq⟩ : ∃ q, yardE L rs = q := ⟨_, rfl⟩
  rw [hq] at hc hne ⊢
  have d1 : (q != 0) = true := by simpa using hne
  have d2 : (q == 0) = false := by simpa using hne
  clear hs hq hne
  go_enter Try.func27, Try.ntmps27
  go_wp2_with fail
  refine (hc.out _ HY.out.bel).mono ?_
  rintro e w1 ⟨rfl, hb1⟩
  have HB := Lib.hid (Below.later (HY.out.bel) hb1)
  clear hb1
  go_wp2
  go_ret2
  exact ⟨rfl, HB.out⟩

set_option maxRecDepth 100000 in
set_option maxHeartbeats 2000000 in
theorem keep_bad (L : Int) (A : Option Addr) (n c : Nat) (rs : List Rg) (ld : Int) (w : World) (hs : Sl 2 encR w w.heap.size A n c rs) (hne : yardE L rs ≠ 0) :
    Calls Try.prog 36 #[.agg #[.int .i64 L, .slice A n c], .int .i64 ld] w fun e w' => e = .returned (.tuple #[.slice none 0 0, .int .i64 (yardE L rs)]) ∧ Below w.heap.size w w' := by
  obtain rfl := hs.len
  have HY := Lib.hid (show YB w (w.alloc (.cells #[.int .i64 L, .slice A rs.length c] 24)) L A rs.length c from ⟨balloc (brefl w) _, Blk.new w _ _⟩)
  have hc := Lib.hid (fun W hb => open_bad L A rs.length c rs W (hs.later (w' := W) hb) hne)
  obtain ⟨q, hq⟩ : ∃ q, yardE L rs = q := ⟨_, rfl⟩
  rw [hq] at hc hne ⊢
  have d1 : (q != 0) = true := by simpa using hne
  have d2 : (q == 0) = false := by simpa using hne
  clear hs hq hne
  go_enter Try.func36, Try.ntmps36
  go_wp2_with fail
  refine (hc.out _ (balloc (HY.out.bel) (.cells #[.int .i64 ld] 2))).mono ?_
  rintro e w1 ⟨rfl, hb1⟩
  have HB := Lib.hid (Below.later ((balloc (HY.out.bel) (.cells #[.int .i64 ld] 2))) hb1)
  clear hb1
  go_wp2
  go_ret2
  exact ⟨rfl, HB.out⟩

set_option maxRecDepth 100000 in
set_option maxHeartbeats 2000000 in
theorem late_ok (L : Nat) (A : Option Addr) (c : Nat) (rs : List Rg) (w : World) (hs : Sl 2 encR w w.heap.size A rs.length c rs) (he : yardE (L : Int) rs = 0) :
    Calls Try.prog 33 #[.agg #[.int .i64 (L : Int), .slice A rs.length c]] w fun e w' => ∃ v, e = .returned (.tuple #[v, .int .i64 0]) ∧ Below w.heap.size w w' ∧ w'.ownsRow w.heap.size 2 1 v (Fill.lateP (LA rs L) 101).length ((Fill.lateP (LA rs L) 101).map (.int .i64)) ∧ ((Fill.lateP (LA rs L) 101).length : Int) = LA rs L 101 := by
  obtain ⟨hL, hr⟩ := yard_ok he
  have HY := Lib.hid (show YB w (w.alloc (.cells #[.int .i64 (L : Int), .slice A rs.length c] 24)) (L : Int) A rs.length c from ⟨balloc (brefl w) _, Blk.new w _ _⟩)
  have hc := Lib.hid (open_ok (L : Int) A rs.length c rs _ (hs.later HY.out.bel) he)
  have Hs := Lib.hid hs
  have Hr := Lib.hid hr
  clear hs he hr
  go_enter Try.func33, Try.ntmps33
  go_wp2_with fail
  refine hc.out.mono ?_
  rintro e w1 ⟨g, rfl, hb1, hg, hv⟩
  have hB1 := Below.later HY.out.bel hb1
  have hf := fill_any g L A c rs w1 hv (Hs.out.later hB1) Hr.out (by omega)
  have HB1 := Lib.hid hB1
  have Hf := Lib.hid hf
  clear hb1 hv hB1 hf
  go_wp2_with fail
  refine Hf.out.mono ?_
  rintro e w2 ⟨v, l, ts, H, rfl, hb2, hok, hown, _⟩
  obtain ⟨hts, htl⟩ := fill_late hok Hr.out (by omega)
  have HB2 := Lib.hid (Below.later HB1.out hb2)
  have Hown := Lib.hid (own_low hown HB1.out.size)
  have Hts := Lib.hid hts
  have Htl := Lib.hid htl
  clear hb2 hok hown hts htl
  go_wp2
  go_ret2
  exact ⟨v, rfl, HB2.out, by rw [← Hts.out]; exact Hown.out, by rw [← Hts.out]; exact Htl.out⟩
set_option maxRecDepth 100000 in
set_option maxHeartbeats 2000000 in
theorem hours_ok (L : Nat) (A : Option Addr) (c : Nat) (rs : List Rg) (w : World) (hs : Sl 2 encR w w.heap.size A rs.length c rs) (he : yardE (L : Int) rs = 0) :
    Calls Try.prog 29 #[.agg #[.int .i64 (L : Int), .slice A rs.length c]] w fun e w' => ∃ g l ts H, e = .returned (.tuple #[.slice (some ⟨g, 0, none⟩) rs.length rs.length, .int .i64 0]) ∧ Below w.heap.size w w' ∧ FillOk rs L l ts H ∧ Sl 1 encI w' w'.heap.size (some ⟨g, 0, none⟩) rs.length rs.length ((List.range rs.length).map H) := by
  obtain ⟨hL, hr⟩ := yard_ok he
  have HY := Lib.hid (show YB w (w.alloc (.cells #[.int .i64 (L : Int), .slice A rs.length c] 24)) (L : Int) A rs.length c from ⟨balloc (brefl w) _, Blk.new w _ _⟩)
  have hc := Lib.hid (open_ok (L : Int) A rs.length c rs _ (hs.later HY.out.bel) he)
  have Hs := Lib.hid hs
  have Hr := Lib.hid hr
  clear hs he hr
  go_enter Try.func29, Try.ntmps29
  go_wp2_with fail
  refine hc.out.mono ?_
  rintro e w1 ⟨g, rfl, hb1, hg, hv⟩
  have hB1 := Below.later HY.out.bel hb1
  have hf := fill_any g L A c rs w1 hv (Hs.out.later hB1) Hr.out (by omega)
  have HB1 := Lib.hid hB1
  have Hf := Lib.hid hf
  clear hb1 hv hB1 hf
  go_wp2_with fail
  refine Hf.out.mono ?_
  rintro e w2 ⟨v, l, ts, H, rfl, hb2, hok, _, hblk⟩
  have HB2 := Lib.hid (Below.later HB1.out hb2)
  have Hok := Lib.hid hok
  have Hsl := Lib.hid (show Sl 1 encI w2 w2.heap.size (some ⟨w1.heap.size + 1, 0, none⟩) rs.length rs.length ((List.range rs.length).map H) from
    ⟨by simp, Nat.le_refl _, by have := Hr.out.1; omega, fun _ => ⟨w1.heap.size + 1, 0, rfl, hblk.lt, fun i x hx j u hu => by
      have hi := (List.getElem?_eq_some_iff.1 hx).1
      have hj := (List.getElem?_eq_some_iff.1 hu).1
      simp [encI] at hj
      subst hj
      have hi' : i < rs.length := by simpa using hi
      rw [show 0 + i * 1 + 0 = i by omega, hblk.cell, numArr_get hi']
      rw [List.getElem?_map, List.getElem?_range hi'] at hx
      simp at hx
      subst hx
      simpa [encI] using hu⟩⟩)
  clear hb2 hok hblk
  go_wp2
  go_ret2
  exact ⟨_, l, ts, H, rfl, HB2.out, Hok.out, Hsl.out⟩
end Go.Proofs.Ytbbdlebmagknmaa
