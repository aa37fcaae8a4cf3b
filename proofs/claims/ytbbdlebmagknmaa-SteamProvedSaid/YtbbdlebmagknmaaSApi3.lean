/- steam's CheckProof: valid or not. -/
import Derived.Test.YtbbdlebmagknmaaSApi
namespace Go.Proofs.Ytbbdlebmagknmaa
open Go.RowKit Go.Shelf

/-- Windows, one behind another, behind an hour. -/
def sepB : Int → List Rg → Bool
  | _, [] => true
  | e, r :: ws => decide (e < r.lo) && sepB r.hi ws
def proofE (L : Int) (rs ws : List Rg) : Int := if yardE L rs = 0 then (if (10 : Int) < ws.length then 6 else if ws.any badR then 3 else if sepB (-1) ws then 0 else 16) else yardE L rs
def proofV (L : Int) (rs ws : List Rg) : Int := if proofE L rs ws = 0 then (ws.map (needP L rs)).sum else 0
set_option maxHeartbeats 1000000 in
theorem badR2_any (x : Rg) (w : World) :
    Calls Try.prog 64 #[.agg #[.int .i64 x.lo, .int .i64 x.hi]] w fun e w' => e = .returned (.bool (badR x)) ∧ Below w.heap.size w w' := by
  have HB := Lib.hid (balloc (brefl w) (.cells #[.int .i64 x.lo, .int .i64 x.hi] 27))
  go_enter Try.func64, Try.ntmps64
  go_wp2_with fail
  refine (window_any x _).mono ?_
  rintro e w1 ⟨rfl, hb1⟩
  have HB1 := Lib.hid (Below.later HB.out hb1)
  clear hb1
  go_wp2
  go_ret
  exact ⟨rfl, HB1.out⟩
set_option maxRecDepth 100000 in
set_option maxHeartbeats 4000000 in
theorem checkProof_any (L : Int) (A : Option Addr) (n c : Nat) (rs : List Rg) (B : Option Addr) (m k : Nat) (ws : List Rg) (w : World) (hs : Sl 2 encR w w.heap.size A n c rs) (ht : Sl 2 encR w w.heap.size B m k ws) :
    Calls Try.prog 27 #[.agg #[.int .i64 L, .slice A n c], .slice B m k] w fun e w' => e = .returned (.tuple #[.int .i64 (proofV L rs ws), .int .i64 (proofE L rs ws)]) ∧ Below w.heap.size w w' := by
  obtain rfl := hs.len
  obtain rfl := ht.len
  by_cases he : yardE L rs = 0
  · obtain ⟨hL, hr⟩ := yard_ok he
    have HE0 := Lib.hid (show proofE L rs ws = if (10 : Int) < ws.length then 6 else if ws.any badR then 3 else if sepB (-1) ws then 0 else 16 by unfold proofE; rw [if_pos he])
    have HY := Lib.hid (show YB w (w.alloc (.cells #[.int .i64 L, .slice A rs.length c] 24)) L A rs.length c from ⟨balloc (brefl w) _, Blk.new w _ _⟩)
    have hc := Lib.hid (open_ok L A rs.length c rs _ (hs.later HY.out.bel) he)
    have Hs := Lib.hid hs
    have Ht := Lib.hid ht
    have Hr := Lib.hid hr
    clear hs ht he hr
    go_enter Try.func27, Try.ntmps27
    go_wp2_with fail
    refine hc.out.mono ?_
    rintro e w1 ⟨g, rfl, hb1, hg, hv⟩
    have HY1 := Lib.hid (HY.out.later hb1)
    have Hv := Lib.hid hv
    clear hb1 hv
    by_cases hlen : (10 : Int) < (ws.length : Int)
    · have d1 : decide ((10 : Int) < (ws.length : Int)) = true := by simpa using hlen
      have HE1 := Lib.hid (show proofE L rs ws = 6 by rw [HE0.out, if_pos hlen])
      clear hlen
      go_wp2
      go_ret2
      exact ⟨by rw [show proofV L rs ws = 0 by unfold proofV; rw [HE1.out]; rfl, HE1.out]; rfl, HY1.out.bel⟩
    · have d1 : decide ((10 : Int) < (ws.length : Int)) = false := by simpa using hlen
      have HE1 := Lib.hid (show proofE L rs ws = if ws.any badR then 3 else if sepB (-1) ws then 0 else 16 by rw [HE0.out, if_neg hlen])
      have hn10 : ws.length ≤ 10 := by omega
      clear hlen
      go_wp2_with fail
      refine (containsR 64 #[] (enters_of Try.func64 (by kernel_rfl) rfl) badR B _ k ws _ (Ht.out.later HY1.out.bel) (fun x W _ _ => badR2_any x W)).mono ?_
      rintro e w2 ⟨rfl, hb2⟩
      have HY2 := Lib.hid (HY1.out.later hb2)
      have Hv2 := Lib.hid (Hv.out.later hb2)
      clear hb2
      obtain ⟨qa, hqa⟩ : ∃ qa, ws.any badR = qa := ⟨_, rfl⟩
      rw [hqa] at HE1 ⊢
      have Hqa := Lib.hid hqa
      clear hqa d1
      cases qa with
      | true =>
        have HE2 := Lib.hid (show proofE L rs ws = 3 by rw [HE1.out]; rfl)
        go_wp2
        go_ret2
        exact ⟨by rw [show proofV L rs ws = 0 by unfold proofV; rw [HE2.out]; rfl, HE2.out]; rfl, HY2.out.bel⟩
      | false =>
        have HE2 := Lib.hid (show proofE L rs ws = if sepB (-1) ws then 0 else 16 by rw [HE1.out]; rfl)
        go_wp2_with fail
        refine loop_n (fun q b W => b.defers = [] ∧ ∃ (i : Nat) (s en : Int), i + q = ws.length ∧ Hid (s + ((ws.drop i).map (needP L rs)).sum = (ws.map (needP L rs)).sum ∧ 0 ≤ s ∧ s ≤ 1010 * (i : Int)) ∧ Hid (sepB en (ws.drop i) = sepB (-1) ws) ∧ YB w W L A rs.length c ∧ Blk W g 87 #[.int .i64 L, .slice A rs.length c] ∧ Fits (none :: none :: none :: none :: none :: none :: some (.pointer (some ⟨g, 0, none⟩)) :: none :: some (.int .i64 s) :: some (.int .i64 en) :: none :: none :: none :: none :: none :: none :: none :: none :: none :: none :: none :: none :: none :: none :: none :: none :: none :: none :: some (.slice B ws.length k) :: some (.int .i64 (ws.length : Nat)) :: some (.int .i64 (i : Nat)) :: none :: none :: none :: none :: none :: none :: none :: none :: none :: none :: none :: none :: none :: none :: none :: none :: []) b.tmps.toList) ws.length ?_ ?_
        · refine ⟨rfl, 0, 0, -1, by omega, Lib.hid ⟨by simp, by omega, by omega⟩, Lib.hid rfl, HY2.out, Hv2.out, ?_⟩
          repeat (first | exact fits_nil | refine fits_none ?_ | refine fits_some ?_)
        clear HY1 Hv HY2 Hv2
        intro q b W hI K hK
        obtain ⟨hds, i, s, en, hiq, hsum, hsep, hY, hv, hfit⟩ := hI
        obtain ⟨f, hf⟩ := fits_act hfit
        rw [hds] at hf
        subst hf
        clear hfit hds
        simp only [fillP, Nat.reduceAdd]
        have HY := Lib.hid hY
        have Hv := Lib.hid hv
        by_cases hlt : i < ws.length
        · obtain ⟨rb, ro, x, rfl, hrb, hx, g0, g1⟩ := (Ht.out.later hY.bel).ltR hlt
          have hdr : ws.drop i = x :: ws.drop (i + 1) := by
            obtain ⟨h1, h2⟩ := List.getElem?_eq_some_iff.1 hx
            rw [List.drop_eq_getElem_cons h1, h2]
          have i1 : (i : Int) < (ws.length : Int) := by omega
          have i2 : (0 : Int) ≤ (i : Int) := by omega
          have i3 : IntKind.i64.wrap ((i : Int) + 1) = (i : Int) + 1 := by rw [IntKind.wrap_i64]; omega
          have hal := balloc (brefl W) (.cells #[.int .i64 x.lo, .int .i64 x.hi] 27)
          have hB : Blk (W.alloc (.cells #[.int .i64 x.lo, .int .i64 x.hi] 27)) W.heap.size 27 #[.int .i64 x.lo, .int .i64 x.hi] := Blk.new _ _ _
          have hY3 := hY.later hal
          have hnd := Lib.hid (fun W' (hb : Below (W.alloc (.cells #[.int .i64 x.lo, .int .i64 x.hi] 27)).heap.size (W.alloc (.cells #[.int .i64 x.lo, .int .i64 x.hi] 27)) W') => need_any g L A rs.length c rs x W' ((hv.later hal).later hb) (Hs.out.later (hY3.later hb).bel) (by have := Hr.out.1; omega) hL (fun x hx => (Hr.out.2 x hx).2.1))
          obtain ⟨n0, n1⟩ := need_le hL Hr.out x
          obtain ⟨s0, s1, s2⟩ := hsum.out
          have hwr : IntKind.i64.wrap (s + needP L rs x) = s + needP L rs x := by rw [IntKind.wrap_i64]; omega
          have hdl : decide (x.lo ≤ en) = !decide (en < x.lo) := by
            rw [Bool.eq_iff_iff]; simp
          have Hsum := Lib.hid (show s + needP L rs x + ((ws.drop (i + 1)).map (needP L rs)).sum = (ws.map (needP L rs)).sum ∧ 0 ≤ s + needP L rs x ∧ s + needP L rs x ≤ 1010 * ((i + 1 : Nat) : Int) by
            rw [hdr, List.map_cons, List.sum_cons] at s0
            exact ⟨by omega, by omega, by omega⟩)
          have hs3 : (decide (en < x.lo) && sepB x.hi (ws.drop (i + 1))) = sepB (-1) ws := by rw [← hsep.out, hdr]; rfl
          have HS := Lib.hid hs3
          have HB := Lib.hid hB
          have HY3 := Lib.hid hY3
          have Hv3 := Lib.hid (hv.later hal)
          have c0 := hB.cell 0
          have c1 := hB.cell 1
          have c2 := hB.lt
          obtain ⟨nd, hndq⟩ : ∃ nd, needP L rs x = nd := ⟨_, rfl⟩
          rw [hndq] at hnd hwr Hsum
          obtain ⟨ql, hql⟩ : ∃ ql, decide (en < x.lo) = ql := ⟨_, rfl⟩
          rw [hql] at HS hdl
          clear hY hv hsum hsep hx hdr hal hB hY3 hs3 hndq n0 n1 s0 s1 s2 hql HY Hv
          cases ql with
          | false =>
            have HE3 := Lib.hid (show proofE L rs ws = 16 by rw [HE2.out, ← HS.out]; rfl)
            clear hK
            go_wp2
            go_ret2
            exact ⟨by rw [show proofV L rs ws = 0 by unfold proofV; rw [HE3.out]; rfl, HE3.out]; rfl, HY3.out.bel⟩
          | true =>
            have HS2 := Lib.hid (show sepB x.hi (ws.drop (i + 1)) = sepB (-1) ws by rw [← HS.out]; rfl)
            clear HS
            go_wp2_with fail
            refine dag 9 (by kernel_rfl) (by kernel_rfl) (.is ?_ :: .is ?_ :: .is ?_ :: .is ?_ :: .is ?_ :: .is ?_ :: .is ?_ :: .is ?_ :: .is ?_ :: []) rfl ?st1 ?ob1
            case st1 => simp [Spec.ok]
            case ob1 =>
              intro env W' hG
              obtain ⟨hc, hf⟩ := bcell hG
              iterate 3 (refine obls_is ?_ ?_; unfold doesAt; go_simp; (try go_bits); (first | (refine ⟨brefl _, ?_⟩; rfl) | rfl); intro K hK; go_simp; refine hK _ ?_; clear hK K)
              refine obls_is ?_ ?_
              · unfold doesAt
                go_simp
                refine (hnd.out W' hG).mono ?_
                rintro e w3 ⟨rfl, hb3⟩
                refine ⟨?_, hb3⟩
                rfl
              intro K' hK'
              go_simp
              refine hK' _ ?_
              clear hK' K'
              repeat (refine obls_is ?_ ?_; unfold doesAt; go_simp; (try go_bits); (first | (refine ⟨brefl _, ?_⟩; rfl) | rfl); intro K hK; go_simp; refine hK _ ?_; clear hK K)
              refine obls_nil (fun _ => ?_)
              have HY4 := Lib.hid (HY3.out.later hG)
              have Hv4 := Lib.hid (Hv3.out.later hG)
              clear hc hf hG
              go_wp2
              refine hK _ _ (q - 1) (by omega) ⟨rfl, i + 1, _, _, by omega, Lib.hid Hsum.out, Lib.hid HS2.out, HY4.out, Hv4.out, ?_⟩
              repeat (first | exact fits_nil | refine fits_none ?_ | refine fits_some ?_)
        · obtain rfl : i = ws.length := by omega
          have HV := Lib.hid (show s = (ws.map (needP L rs)).sum by have h1 := hsum.out.1; rw [List.drop_length] at h1; simpa using h1)
          have HE3 := Lib.hid (show proofE L rs ws = 0 by
            have h1 := hsep.out
            rw [List.drop_length] at h1
            rw [HE2.out, ← h1]; rfl)
          clear hK hsum hsep hY hv
          go_wp2
          go_ret2
          exact ⟨by rw [show proofV L rs ws = s by unfold proofV; rw [HE3.out, if_pos rfl, HV.out], HE3.out]; rfl, HY.out.bel⟩
  · have h1 : proofE L rs ws = yardE L rs := by unfold proofE; rw [if_neg he]
    unfold proofV
    rw [h1, if_neg he]
    exact checkProof_bad L A _ c rs _ w hs he
end Go.Proofs.Ytbbdlebmagknmaa
