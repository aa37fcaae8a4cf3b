/- The document's Loads, CheckHours, Need. -/
import Derived.Test.YtbbdlebmagknmaaSApi2
namespace Go.Proofs.Ytbbdlebmagknmaa
open Go.RowKit Go.Shelf

set_option maxRecDepth 100000 in
set_option maxHeartbeats 4000000 in
theorem refLoads_any (L : Int) (A : Option Addr) (n c : Nat) (B : Option Addr) (m k : Nat) (hs : List Int) (w : World) (hh : Sl 1 encI w w.heap.size B m k hs) (hm : m ≤ 100) (hL : 1 ≤ L ∧ L ≤ 10) :
    Calls Try.prog 56 #[.agg #[.int .i64 L, .slice A n c], .slice B m k] w fun e w' => e = .returned (.int .i64 (loadsP L hs)) ∧ Below w.heap.size w w' := by
  obtain rfl := hh.len
  have Hh := Lib.hid hh
  have HY := Lib.hid (show YB w (w.alloc (.cells #[.int .i64 L, .slice A n c] 24)) L A n c from ⟨balloc (brefl w) _, Blk.new w _ _⟩)
  have hbd : ∀ l : List Int, l.length ≤ 100 → ∀ t, 0 ≤ cntP l t ∧ cntP l t ≤ 100 := fun l hl t => by
    have := List.countP_le_length (p := fun h => decide (h = (t : Int))) (l := l)
    unfold cntP; omega
  have Hbd := Lib.hid hbd
  have Hlo := Lib.hid (show ∀ t : Nat, t ≤ 101 → 0 ≤ loadsTo L hs t ∧ loadsTo L hs t ≤ t * 2000 from fun t => by
    induction t with
    | zero => intro _; simp [loadsTo]
    | succ t ih =>
      intro ht
      have h1 := ih (by omega)
      obtain ⟨_, _, _, _, _, u0, u1⟩ := upI_facts hL (x := cntP hs t) (by have := hbd hs hm t; omega)
      simp only [loadsTo]
      omega)
  have HL := Lib.hid hL
  clear hh hbd hL
  go_enter Try.func56, Try.ntmps56
  go_wp2_with fail
  refine loop_n (fun m a W => a.defers = [] ∧ ∃ t : Nat, t + m = 101 ∧ YB w W L A n c ∧ Fits (none :: some (.slice B hs.length k) :: some (.pointer (some ⟨w.heap.size, 0, none⟩)) :: none :: none :: some (.int .i64 (loadsTo L hs t)) :: some (.int .i64 (t : Nat)) :: none :: none :: none :: none :: none :: none :: none :: none :: none :: none :: none :: none :: none :: none :: none :: none :: none :: none :: none :: none :: none :: none :: none :: none :: none :: none :: none :: []) a.tmps.toList) 101 ?_ ?_
  · refine ⟨rfl, 0, by omega, HY.out, ?_⟩
    repeat (first | exact fits_nil | refine fits_none ?_ | refine fits_some ?_)
  clear HY
  intro q a W hI K hK
  obtain ⟨hds, t, htq, hY, hfit⟩ := hI
  obtain ⟨f, hf⟩ := fits_act hfit
  rw [hds] at hf
  subst hf
  clear hfit hds
  simp only [fillP, Nat.reduceAdd]
  have HY := Lib.hid hY
  by_cases hlt : t < 101
  · have i1 : (t : Int) ≤ 100 := by omega
    have i3 : IntKind.i64.wrap ((t : Int) + 1) = (t : Int) + 1 := by rw [IntKind.wrap_i64]; omega
    obtain ⟨a0, a1⟩ := Hlo.out t (by omega)
    have HS := Lib.hid (show loadsTo L hs t + upI (cntP hs t) L = loadsTo L hs (t + 1) from rfl)
    obtain ⟨s, hs1⟩ : ∃ s, loadsTo L hs t = s := ⟨_, rfl⟩
    rw [hs1] at a0 a1 HS ⊢
    clear hY hs1
    go_wp2_with fail
    refine loop_n (fun m a W => a.defers = [] ∧ ∃ i : Nat, i + m = hs.length ∧ YB w W L A n c ∧ Fits (none :: some (.slice B hs.length k) :: some (.pointer (some ⟨w.heap.size, 0, none⟩)) :: none :: none :: some (.int .i64 s) :: some (.int .i64 (t : Nat)) :: some (.int .i64 (cntP (hs.take i) t)) :: some (.int .i64 (i : Nat)) :: none :: none :: none :: none :: none :: none :: none :: none :: none :: none :: none :: none :: none :: none :: none :: none :: none :: none :: none :: none :: none :: none :: none :: none :: none :: []) a.tmps.toList) hs.length ?_ ?_
    · refine ⟨rfl, 0, by omega, HY.out, ?_⟩
      rw [show cntP (hs.take 0) t = 0 by simp [cntP]]
      repeat (first | exact fits_nil | refine fits_none ?_ | refine fits_some ?_)
    clear HY
    clear W
    intro r a W hI K2 hK2
    obtain ⟨hds, i, hir, hY, hfit⟩ := hI
    obtain ⟨f2, hf⟩ := fits_act hfit
    rw [hds] at hf
    subst hf
    clear hfit hds
    simp only [fillP, Nat.reduceAdd]
    have HY := Lib.hid hY
    by_cases hlt2 : i < hs.length
    · obtain ⟨rb, ro, x, rfl, hrb, hx, g0⟩ := (Hh.out.later hY.bel).ltI hlt2
      have j1 : (i : Int) < (hs.length : Int) := by omega
      have j2 : (0 : Int) ≤ (i : Int) := by omega
      have j3 : IntKind.i64.wrap ((i : Int) + 1) = (i : Int) + 1 := by rw [IntKind.wrap_i64]; omega
      obtain ⟨b0, b1⟩ := Hbd.out (hs.take i) (by simp; omega) t
      have hst := count_take (p := fun h => decide (h = (t : Int))) hx
      have Hst := Lib.hid (show cntP (hs.take (i + 1)) t = cntP (hs.take i) t + if x = (t : Int) then 1 else 0 by
        unfold cntP; rw [hst]; by_cases e : x = (t : Int) <;> simp [e])
      obtain ⟨v, hv⟩ : ∃ v, cntP (hs.take i) t = v := ⟨_, rfl⟩
      rw [hv] at b0 b1 Hst ⊢
      have j4 : IntKind.i64.wrap (v + 1) = v + 1 := by rw [IntKind.wrap_i64]; omega
      clear hY hx hst hv
      by_cases he : x = (t : Int)
      · have z1 : (x == (t : Int)) = true := by simpa using he
        rw [if_pos he] at Hst
        have HE := Lib.hid he
        clear he
        go_wp2
        refine hK2 _ _ (r - 1) (by omega) ⟨rfl, i + 1, by omega, HY.out, ?_⟩
        rw [Hst.out]
        repeat (first | exact fits_nil | refine fits_none ?_ | refine fits_some ?_)
      · have z1 : (x == (t : Int)) = false := by simpa using he
        rw [if_neg he] at Hst
        clear he
        go_wp2
        refine hK2 _ _ (r - 1) (by omega) ⟨rfl, i + 1, by omega, HY.out, ?_⟩
        rw [Hst.out, Int.add_zero]
        repeat (first | exact fits_nil | refine fits_none ?_ | refine fits_some ?_)
    · obtain rfl : i = hs.length := by omega
      rw [List.take_length]
      obtain ⟨b0, b1⟩ := Hbd.out hs hm t
      have c0 := hY.b0.cell 0
      have c1 := hY.b0.cell 1
      have c2 := hY.b0.lt
      obtain ⟨_, _, _, _, _, u0, u1⟩ := upI_facts HL.out (x := cntP hs t) (by omega)
      have hup := Lib.hid (refUp_any L (cntP hs t) W HL.out (by omega))
      obtain ⟨v, hv⟩ : ∃ v, cntP hs t = v := ⟨_, rfl⟩
      rw [hv] at u0 u1 hup HS b0 b1 ⊢
      obtain ⟨u, hu⟩ : ∃ u, upI v L = u := ⟨_, rfl⟩
      rw [hu] at u0 u1 hup HS
      have hwr : IntKind.i64.wrap (s + u) = s + u := by rw [IntKind.wrap_i64]; omega
      clear hY hv hu hK2
      go_wp2_with fail
      refine hup.out.mono ?_
      rintro e w2 ⟨rfl, hb2⟩
      have HY2 := Lib.hid (HY.out.later hb2)
      clear hb2
      go_wp2
      refine hK _ _ (q - 1) (by omega) ⟨rfl, t + 1, by omega, HY2.out, ?_⟩
      rw [← HS.out]
      repeat (first | exact fits_nil | refine fits_none ?_ | refine fits_some ?_)
  · obtain rfl : t = 101 := by omega
    clear hK hY
    go_wp2
    go_ret
    exact ⟨ret_int rfl, HY.out.bel⟩
set_option maxRecDepth 100000 in
set_option maxHeartbeats 2000000 in
theorem refNeedC_any (L : Int) (A : Option Addr) (n c : Nat) (rs : List Rg) (wd : Rg) (w : World) (hs : Sl 2 encR w w.heap.size A n c rs) :
    Calls Try.prog 22 #[.agg #[.int .i64 L, .slice A n c], .agg #[.int .i64 wd.lo, .int .i64 wd.hi]] w fun e w' => e = .returned (.tuple #[.int .i64 (needV L rs wd), .int .i64 (needE L rs wd)]) ∧ Below w.heap.size w w' := by
  obtain rfl := hs.len
  have hb1 := Blk.new (w.alloc (.cells #[.int .i64 L, .slice A rs.length c] 24)) 27 #[.int .i64 wd.lo, .int .i64 wd.hi]
  rw [World.size_alloc] at hb1
  have HN := Lib.hid (show NW w ((w.alloc (.cells #[.int .i64 L, .slice A rs.length c] 24)).alloc (.cells #[.int .i64 wd.lo, .int .i64 wd.hi] 27)) L A rs.length c wd from ⟨balloc (balloc (brefl w) _) _, (Blk.new w _ _).alloc _, hb1⟩)
  have Hs := Lib.hid hs
  have Hyc := Lib.hid (fun W hb => refYard_any L A rs.length c rs W (hs.later (w' := W) hb))
  by_cases he : yardE L rs = 0
  · obtain ⟨hL, hr⟩ := yard_ok he
    unfold needV needE
    rw [if_pos he, if_pos he]
    rw [he] at Hyc
    obtain ⟨q, hq⟩ : ∃ q, winB wd = q := ⟨_, rfl⟩
    rw [hq]
    have Hq := Lib.hid hq
    have Hr := Lib.hid hr
    clear hq hs he hr hb1
    go_enter Try.func22, Try.ntmps22
    go_wp2_with fail
    refine (Hyc.out _ HN.out.bel).mono ?_
    rintro e w1 ⟨rfl, hb1⟩
    have hN1 := HN.out.later hb1
    have c0 := hN1.b1.cell 0
    have c1 := hN1.b1.cell 1
    have c2 := hN1.b1.lt
    have HN1 := Lib.hid hN1
    clear hb1 hN1
    go_wp2_with fail
    refine (refWindow_any wd _).mono ?_
    rintro e w2 ⟨rfl, hb2⟩
    rw [Hq.out]
    have hN2 := HN1.out.later hb2
    have d0 := hN2.b1.cell 0
    have d1 := hN2.b1.cell 1
    have d2 := hN2.b1.lt
    have e0 := hN2.b0.cell 0
    have e1 := hN2.b0.cell 1
    have e2 := hN2.b0.lt
    have HN2 := Lib.hid hN2
    clear hb2 hN2 c0 c1 c2
    cases q with
    | false =>
      go_wp2
      go_ret2
      exact ⟨rfl, HN2.out.bel⟩
    | true =>
      go_wp2_with fail
      refine (refNeed_any L A rs.length c rs wd w2 (Hs.out.later HN2.out.bel) (by have := Hr.out.1; omega) hL).mono ?_
      rintro e w3 ⟨rfl, hb3⟩
      have HN3 := Lib.hid (HN2.out.later hb3)
      clear hb3
      go_wp2
      go_ret2
      exact ⟨rfl, HN3.out.bel⟩
  · unfold needV needE
    rw [if_neg he, if_neg he]
    obtain ⟨q, hq⟩ : ∃ q, yardE L rs = q := ⟨_, rfl⟩
    rw [hq] at Hyc he ⊢
    have d1 : (q != 0) = true := by simpa using he
    clear hs he hq hb1
    go_enter Try.func22, Try.ntmps22
    go_wp2_with fail
    refine (Hyc.out _ HN.out.bel).mono ?_
    rintro e w1 ⟨rfl, hb1⟩
    have hN1 := HN.out.later hb1
    have c0 := hN1.b0.cell 0
    have c1 := hN1.b0.cell 1
    have c2 := hN1.b0.lt
    have HN1 := Lib.hid hN1
    clear hb1 hN1
    go_wp2_with fail
    refine (Hyc.out _ HN1.out.bel).mono ?_
    rintro e w2 ⟨rfl, hb2⟩
    have HN2 := Lib.hid (HN1.out.later hb2)
    clear hb2
    go_wp2
    go_ret2
    exact ⟨rfl, HN2.out.bel⟩
end Go.Proofs.Ytbbdlebmagknmaa
