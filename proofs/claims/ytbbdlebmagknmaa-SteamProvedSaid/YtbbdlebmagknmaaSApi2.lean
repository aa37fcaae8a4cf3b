/- steam's Late, Fewest, Need, CheckHours: valid or not. -/
import Derived.Test.YtbbdlebmagknmaaSApi
namespace Go.Proofs.Ytbbdlebmagknmaa
open Go.RowKit Go.Shelf

def lateV (L : Int) (rs : List Rg) : List Int := if yardE L rs = 0 then Fill.lateP (LA rs L.toNat) 101 else []
def fewV (L : Int) (rs : List Rg) : Int := if yardE L rs = 0 then LA rs L.toNat 101 else 0
theorem late_any (L : Int) (A : Option Addr) (n c : Nat) (rs : List Rg) (w : World) (hs : Sl 2 encR w w.heap.size A n c rs) :
    Calls Try.prog 33 #[.agg #[.int .i64 L, .slice A n c]] w fun e w' => ∃ v, e = .returned (.tuple #[v, .int .i64 (yardE L rs)]) ∧ Below w.heap.size w w' ∧ w'.ownsRow w.heap.size 2 1 v (lateV L rs).length ((lateV L rs).map (.int .i64)) ∧ ((lateV L rs).length : Int) = fewV L rs := by
  obtain rfl := hs.len
  by_cases he : yardE L rs = 0
  · obtain ⟨m, rfl, hL, hr⟩ := yard_nat he
    unfold lateV fewV
    rw [if_pos he, if_pos he, he]
    exact late_ok m A c rs w hs he
  · unfold lateV fewV
    rw [if_neg he, if_neg he]
    refine (late_bad L A _ c rs w hs he).mono ?_
    rintro e w' ⟨rfl, hb⟩
    exact ⟨_, rfl, hb, World.ownsRow_nil _ _ _ _, rfl⟩
set_option maxRecDepth 100000 in
set_option maxHeartbeats 1000000 in
theorem fewest_any (L : Int) (A : Option Addr) (n c : Nat) (rs : List Rg) (w : World) (hs : Sl 2 encR w w.heap.size A n c rs) :
    Calls Try.prog 25 #[.agg #[.int .i64 L, .slice A n c]] w fun e w' => e = .returned (.tuple #[.int .i64 (fewV L rs), .int .i64 (yardE L rs)]) ∧ Below w.heap.size w w' := by
  obtain rfl := hs.len
  have HY := Lib.hid (show YB w (w.alloc (.cells #[.int .i64 L, .slice A rs.length c] 24)) L A rs.length c from ⟨balloc (brefl w) _, Blk.new w _ _⟩)
  have hc := Lib.hid (late_any L A rs.length c rs _ (hs.later HY.out.bel))
  clear hs
  go_enter Try.func25, Try.ntmps25
  go_wp2_with fail
  refine hc.out.mono ?_
  rintro e w1 ⟨v, rfl, hb1, hown, hlen⟩
  obtain ⟨At, ct, rfl, _⟩ := own_slI hown rfl
  have HB := Lib.hid (Below.later HY.out.bel hb1)
  have HE := Lib.hid hlen
  clear hb1 hown hlen
  go_wp2
  go_ret2
  exact ⟨by rw [HE.out]; rfl, HB.out⟩
def needE (L : Int) (rs : List Rg) (wd : Rg) : Int := if yardE L rs = 0 then (if winB wd then 0 else 3) else yardE L rs
def needV (L : Int) (rs : List Rg) (wd : Rg) : Int := if yardE L rs = 0 then (if winB wd then needP L rs wd else 0) else 0
set_option maxRecDepth 100000 in
set_option maxHeartbeats 2000000 in
theorem needC_any (L : Int) (A : Option Addr) (n c : Nat) (rs : List Rg) (wd : Rg) (w : World) (hs : Sl 2 encR w w.heap.size A n c rs) :
    Calls Try.prog 21 #[.agg #[.int .i64 L, .slice A n c], .agg #[.int .i64 wd.lo, .int .i64 wd.hi]] w fun e w' => e = .returned (.tuple #[.int .i64 (needV L rs wd), .int .i64 (needE L rs wd)]) ∧ Below w.heap.size w w' := by
  obtain rfl := hs.len
  by_cases he : yardE L rs = 0
  · obtain ⟨hL, hr⟩ := yard_ok he
    unfold needV needE
    rw [if_pos he, if_pos he]
    obtain ⟨q, hq⟩ : ∃ q, winB wd = q := ⟨_, rfl⟩
    rw [hq]
    have Hq := Lib.hid hq
    clear hq
    have hb0 : Below w.heap.size w ((w.alloc (.cells #[.int .i64 L, .slice A rs.length c] 24)).alloc (.cells #[.int .i64 wd.lo, .int .i64 wd.hi] 27)) := balloc (balloc (brefl w) _) _
    have hwB := Blk.new (w.alloc (.cells #[.int .i64 L, .slice A rs.length c] 24)) 27 #[.int .i64 wd.lo, .int .i64 wd.hi]
    rw [World.size_alloc] at hwB
    have hc := Lib.hid (open_ok L A rs.length c rs _ (hs.later hb0) he)
    have Hs := Lib.hid hs
    have Hr := Lib.hid hr
    have HB0 := Lib.hid hb0
    have HW := Lib.hid hwB
    clear hs he hr hb0 hwB
    go_enter Try.func21, Try.ntmps21
    go_wp2_with fail
    refine hc.out.mono ?_
    rintro e w1 ⟨g, rfl, hb1, hg, hv⟩
    have hB1 := Below.later HB0.out hb1
    have hW1 := HW.out.later hb1
    have c0 := hW1.cell 0
    have c1 := hW1.cell 1
    have c2 := hW1.lt
    have HB1 := Lib.hid hB1
    have HW1 := Lib.hid hW1
    have Hv := Lib.hid hv
    clear hb1 hB1 hW1 hv
    go_wp2_with fail
    refine (window_any wd _).mono ?_
    rintro e w2 ⟨rfl, hb2⟩
    rw [Hq.out]
    have hB2 := Below.later HB1.out hb2
    have hW2 := HW1.out.later hb2
    have d0 := hW2.cell 0
    have d1 := hW2.cell 1
    have d2 := hW2.lt
    have hnd := need_any g L A rs.length c rs wd w2 (Hv.out.later hb2) (Hs.out.later hB2) (by have := Hr.out.1; omega) hL (fun x hx => (Hr.out.2 x hx).2.1)
    have HB2 := Lib.hid hB2
    have Hnd := Lib.hid hnd
    clear hb2 hB2 hW2 hnd c0 c1 c2
    cases q with
    | false =>
      go_wp2
      all_goals
        go_ret2
        exact ⟨rfl, HB2.out⟩
    | true =>
      go_wp2_with fail
      refine Hnd.out.mono ?_
      rintro e w3 ⟨rfl, hb3⟩
      have HB3 := Lib.hid (Below.later HB2.out hb3)
      clear hb3
      go_wp2
      go_ret2
      exact ⟨rfl, HB3.out⟩
  · unfold needV needE
    rw [if_neg he, if_neg he]
    exact need__bad L A _ c rs wd w hs he
/-! ### CheckHours -/
def IsInts (n : Nat) (xs : List Int) (v : Value) (W : World) : Prop := ∃ G c, v = .slice G n c ∧ Sl 1 encI W W.heap.size G n c xs
theorem IsInts.stab {n : Nat} {xs : List Int} : ∀ v W W', Gr W W' → IsInts n xs v W → IsInts n xs v W' := fun _ _ _ hG ⟨G, c, h1, h2⟩ => ⟨G, c, h1, h2.later hG⟩
def wrongB (p : Int × Rg) : Bool := !(inR p.2.lo p.2.hi p.1)
def hoursE (L : Int) (rs : List Rg) (hs : List Int) : Int := if yardE L rs = 0 then (if hs.length = rs.length then (if (hs.zip rs).any wrongB then 19 else 0) else 15) else yardE L rs
def hoursV (L : Int) (rs : List Rg) (hs : List Int) : Int := if hoursE L rs hs = 0 then loadsP L hs else 0
set_option maxRecDepth 100000 in
set_option maxHeartbeats 4000000 in
theorem checkHours_any (L : Int) (A : Option Addr) (n c : Nat) (rs : List Rg) (B : Option Addr) (m k : Nat) (hh : List Int) (w : World) (hs : Sl 2 encR w w.heap.size A n c rs) (ht : Sl 1 encI w w.heap.size B m k hh) :
    Calls Try.prog 19 #[.agg #[.int .i64 L, .slice A n c], .slice B m k] w fun e w' => e = .returned (.tuple #[.int .i64 (hoursV L rs hh), .int .i64 (hoursE L rs hh)]) ∧ Below w.heap.size w w' := by
  obtain rfl := hs.len
  obtain rfl := ht.len
  by_cases he : yardE L rs = 0
  · obtain ⟨hL, hr⟩ := yard_ok he
    have HE0 := Lib.hid (show hoursE L rs hh = if hh.length = rs.length then (if (hh.zip rs).any wrongB then 19 else 0) else 15 by unfold hoursE; rw [if_pos he])
    have HY := Lib.hid (show YB w (w.alloc (.cells #[.int .i64 L, .slice A rs.length c] 24)) L A rs.length c from ⟨balloc (brefl w) _, Blk.new w _ _⟩)
    have hc := Lib.hid (open_ok L A rs.length c rs _ (hs.later HY.out.bel) he)
    have Hs := Lib.hid hs
    have Ht := Lib.hid ht
    have Hr := Lib.hid hr
    clear hs ht he hr
    go_enter Try.func19, Try.ntmps19
    go_wp2_with fail
    refine hc.out.mono ?_
    rintro e w1 ⟨g, rfl, hb1, hg, hv⟩
    have hY1 := HY.out.later hb1
    have c0 := hY1.b0.cell 0
    have c1 := hY1.b0.cell 1
    have c2 := hY1.b0.lt
    have HY1 := Lib.hid hY1
    have Hv := Lib.hid hv
    clear hb1 hY1 hv
    by_cases hlen : hh.length = rs.length
    · have hl1 : ((hh.length : Int) != (rs.length : Int)) = false := by simp [hlen]
      have HE1 := Lib.hid (show hoursE L rs hh = if (hh.zip rs).any wrongB then 19 else 0 by rw [HE0.out, if_pos hlen])
      have hn10 : hh.length ≤ 10 := by rw [hlen]; exact Hr.out.1
      have Hlen := Lib.hid hlen
      clear hlen
      go_wp2_with fail
      clear c0 c1 c2 hl1
      refine loop_n (fun q b W => b.defers = [] ∧ ∃ i : Nat, i + q = hh.length ∧ Hid (∀ j p, j < i → (hh.zip rs)[j]? = some p → wrongB p = false) ∧ YB w W L A rs.length c ∧ Blk W g 87 #[.int .i64 L, .slice A rs.length c] ∧ Fits (none :: some (.slice B hh.length k) :: some (.pointer (some ⟨w.heap.size, 0, none⟩)) :: none :: none :: none :: some (.pointer (some ⟨g, 0, none⟩)) :: none :: none :: none :: none :: none :: none :: none :: none :: none :: none :: none :: none :: none :: none :: none :: none :: none :: none :: none :: some (.slice B hh.length k) :: some (.int .i64 (hh.length : Nat)) :: some (.int .i64 (i : Nat)) :: none :: none :: none :: none :: none :: none :: none :: none :: none :: none :: none :: none :: none :: none :: none :: none :: none :: none :: none :: none :: none :: none :: none :: none :: []) b.tmps.toList) hh.length ?_ ?_
      · refine ⟨rfl, 0, by omega, Lib.hid (fun j p hj => by omega), HY1.out, Hv.out, ?_⟩
        repeat (first | exact fits_nil | refine fits_none ?_ | refine fits_some ?_)
      clear HY1 Hv
      intro q b W hI K hK
      obtain ⟨hds, i, hiq, hno, hY, hv, hfit⟩ := hI
      obtain ⟨f, hf⟩ := fits_act hfit
      rw [hds] at hf
      subst hf
      clear hfit hds
      simp only [fillP, Nat.reduceAdd]
      have c0 := hY.b0.cell 0
      have c1 := hY.b0.cell 1
      have c2 := hY.b0.lt
      have HY := Lib.hid hY
      have Hv := Lib.hid hv
      by_cases hlt : i < hh.length
      · obtain ⟨tb, tof, t, rfl, htb, ht', t0⟩ := (Ht.out.later hY.bel).ltI hlt
        have hlr : i < rs.length := by rw [← Hlen.out]; exact hlt
        obtain ⟨rb, ro, x, rfl, hrb, hx, g0, g1⟩ := (Hs.out.later hY.bel).ltR hlr
        have hz : (hh.zip rs)[i]? = some (t, x) := by rw [List.getElem?_zip_eq_some]; exact ⟨ht', hx⟩
        have i1 : (i : Int) < (hh.length : Int) := by omega
        have i2 : (0 : Int) ≤ (i : Int) := by omega
        have i3 : IntKind.i64.wrap ((i : Int) + 1) = (i : Int) + 1 := by rw [IntKind.wrap_i64]; omega
        have i4 : (i : Int) < (rs.length : Int) := by omega
        have hN : wrongB (t, x) = false → ∀ j p, j < i + 1 → (hh.zip rs)[j]? = some p → wrongB p = false := fun h => no_succ hno.out hz h
        have hX : wrongB (t, x) = true → hoursE L rs hh = 19 := fun h => by rw [HE1.out, if_pos (List.any_eq_true.2 ⟨_, List.mem_of_getElem? hz, h⟩)]
        have HN := Lib.hid hN
        have HX := Lib.hid hX
        clear hY hv hno ht' hx hz hN hX
        go_wp2_with fail
        refine dag 16 (by kernel_rfl) (by kernel_rfl) (.is ?_ :: .is ?_ :: .is ?_ :: .is ?_ :: .is ?_ :: .is ?_ :: .is ?_ :: .is ?_ :: .is ?_ :: .is ?_ :: .is ?_ :: .is ?_ :: .is ?_ :: .like (IsInts 1 [t]) :: .is ?_ :: .is ?_ :: []) rfl ?st1 ?ob1
        case st1 => repeat (first | exact stab_nil | refine stab_is ?_ | refine stab_like IsInts.stab ?_)
        case ob1 =>
          intro env W' hG
          obtain ⟨hc, hf⟩ := bcell hG
          iterate 13 (refine obls_is ?_ ?_; unfold doesAt; go_simp; (try go_bits); (first | (refine ⟨brefl _, ?_⟩; rfl) | rfl); intro K hK; go_simp; refine hK _ ?_; clear hK K)
          refine obls_like (fun _ => ?_) ?_
          · unfold doesAt
            go_simp
            exact ⟨balloc (brefl _) _, _, _, rfl, Sl.one (by simp) (by go_simp)⟩
          intro K' hK'
          go_simp
          refine hK' _ ?_
          clear hK' K'
          refine obls_isL (fun hl => ?_) ?_
          · obtain ⟨G, cg, hE, hsl⟩ : IsInts 1 [t] (env 13) W' := hl ⟨13, .data⟩ (by simp) rfl
            unfold doesAt
            go_simp
            refine (within_any x.lo x.hi G 1 cg [t] W' hsl).mono ?_
            rintro e w3 ⟨rfl, hb3⟩
            rw [inR_any]
            refine ⟨?_, hb3⟩
            rfl
          intro K' hK'
          go_simp
          refine hK' _ ?_
          clear hK' K'
          repeat (refine obls_is ?_ ?_; unfold doesAt; go_simp; (try go_bits); (first | (refine ⟨brefl _, ?_⟩; rfl) | rfl); intro K hK; go_simp; refine hK _ ?_; clear hK K)
          refine obls_nil (fun _ => ?_)
          have HY2 := Lib.hid (HY.out.later hG)
          have Hv2 := Lib.hid (Hv.out.later hG)
          clear hc hf hG
          obtain ⟨qb, hqb⟩ : ∃ qb, inR x.lo x.hi t = qb := ⟨_, rfl⟩
          rw [hqb]
          have hwb : wrongB (t, x) = !qb := by unfold wrongB; rw [hqb]
          rw [hwb] at HN HX
          clear hqb hwb
          cases qb with
          | true =>
            have HN2 := Lib.hid (HN.out rfl)
            clear HN HX
            go_wp2
            refine hK _ _ (q - 1) (by omega) ⟨rfl, i + 1, by omega, Lib.hid HN2.out, HY2.out, Hv2.out, ?_⟩
            repeat (first | exact fits_nil | refine fits_none ?_ | refine fits_some ?_)
          | false =>
            have HX2 := Lib.hid (HX.out rfl)
            clear HN HX hK
            go_wp2
            go_ret2
            exact ⟨by rw [show hoursV L rs hh = 0 by unfold hoursV; rw [HX2.out]; rfl, HX2.out]; rfl, HY2.out.bel⟩
      · obtain rfl : i = hh.length := by omega
        have HE2 := Lib.hid (show hoursE L rs hh = 0 by
          rw [HE1.out, if_neg]
          intro ha
          obtain ⟨p, hp, hb⟩ := List.any_eq_true.1 ha
          obtain ⟨j, hj⟩ := List.getElem?_of_mem hp
          have hjl := (List.getElem?_eq_some_iff.1 hj).1
          rw [hno.out j p (by simp at hjl; omega) hj] at hb
          cases hb)
        have hrh : ∀ h ∈ hh, 0 ≤ h ∧ h ≤ 100 := fun h hm => by
          obtain ⟨j, hj⟩ := List.getElem?_of_mem hm
          have hjl := (List.getElem?_eq_some_iff.1 hj).1
          have hx := List.getElem?_eq_getElem (show j < rs.length by rw [← Hlen.out]; exact hjl)
          have hz : (hh.zip rs)[j]? = some (h, rs[j]'(by rw [← Hlen.out]; exact hjl)) := by rw [List.getElem?_zip_eq_some]; exact ⟨hj, hx⟩
          have h1 := hno.out j _ hjl hz
          unfold wrongB at h1
          simp only [Bool.not_eq_false', inR_iff] at h1
          have h2 := Hr.out.2 _ (List.mem_of_getElem? hx)
          omega
        have hld := loads_any g L A rs.length c B hh.length k hh W hv (Ht.out.later hY.bel) (by rw [Hlen.out]; have := Hr.out.1; omega) hL hrh
        have Hld := Lib.hid hld
        clear hK hno hY hv hrh hld
        go_wp2_with fail
        refine Hld.out.mono ?_
        rintro e w2 ⟨rfl, hb2⟩
        have HY2 := Lib.hid (HY.out.later hb2)
        clear hb2
        go_wp2
        go_ret2
        exact ⟨by rw [show hoursV L rs hh = loadsP L hh by unfold hoursV; rw [HE2.out, if_pos rfl], HE2.out]; rfl, HY2.out.bel⟩
    · have hl1 : ((hh.length : Int) != (rs.length : Int)) = true := by simp; omega
      have HE1 := Lib.hid (show hoursE L rs hh = 15 by rw [HE0.out, if_neg hlen])
      clear hlen
      go_wp2
      go_ret2
      exact ⟨by rw [show hoursV L rs hh = 0 by unfold hoursV; rw [HE1.out]; rfl, HE1.out]; rfl, HY1.out.bel⟩
  · have h1 : hoursE L rs hh = yardE L rs := by unfold hoursE; rw [if_neg he]
    unfold hoursV
    rw [h1, if_neg he]
    exact checkHours_bad L A _ c rs _ w hs he
end Go.Proofs.Ytbbdlebmagknmaa
