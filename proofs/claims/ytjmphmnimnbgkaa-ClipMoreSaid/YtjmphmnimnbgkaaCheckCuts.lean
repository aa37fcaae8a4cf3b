/- clip.CheckCuts, where the ribbon and the kinds are valid: what cuts are worth, or the error. -/
import Derived.Test.YtjmphmnimnbgkaaBad
namespace Go.Proofs.Ytjmphmnimnbgkaa
open Go.RowKit Go.Shelf

/-- A sheet's numbers are out of their ranges. -/
def oddB (L n : Int) (s : Sh) : Bool := !inR 0 L s.f || !inR 0 (n - 1) s.k
def canS (L : Nat) (F : Nat → Int) (ks : List Kd) (s : Sh) : Bool := match ks[s.k.toNat]? with
  | some x => canB L F x s.f.toNat
  | none => false
def walkCuts (ks : List Kd) : List Sh → Int → Int → Int × Int
  | [], _, worth => (worth, 0)
  | s :: l, next, worth => if s.f < next then (0, 16) else walkCuts ks l (s.f + (ks.getD s.k.toNat ⟨0, 0, 0⟩).w) (worth + (ks.getD s.k.toNat ⟨0, 0, 0⟩).p)
def cutsP (L : Nat) (F : Nat → Int) (ks : List Kd) (cuts : List Sh) : Int × Int :=
  if L < cuts.length then (0, 6) else if cuts.any (oddB L ks.length) then (0, 3) else if cuts.any (fun s => !canS L F ks s) then (0, 18) else walkCuts ks cuts 0 0

set_option maxHeartbeats 1000000 in
theorem odd_any (b3 b4 n kc : Nat) (KA : Option Addr) (L : Int) (s : Sh) (w : World) (h3 : w.cell? ⟨b3, 0, none⟩ = some (.int .i64 L)) (h4 : w.cell? ⟨b4, 0, none⟩ = some (.slice KA n kc)) (l3 : b3 < w.heap.size) (l4 : b4 < w.heap.size) (hn : n ≤ 1000) :
    Calls Try.prog 54 #[.agg #[.int .i64 s.f, .int .i64 s.k], .pointer (some ⟨b3, 0, none⟩), .pointer (some ⟨b4, 0, none⟩)] w fun e w' => e = .returned (.bool (oddB L n s)) ∧ Below w.heap.size w w' := by
  obtain ⟨sf, sk⟩ := s
  have hw1 : b3 ≠ w.heap.size := by omega
  have hw2 : b4 ≠ w.heap.size := by omega
  cases h1 : inR 0 L sf with
  | false =>
    have HE := Lib.hid (show oddB L n ⟨sf, sk⟩ = true by simp [oddB, h1])
    go_enter Try.func54, Try.ntmps54
    go_wp2_with fail
    refine (within_one 0 L sf (w.heap.size + 1) _ (by simp) (by go_simp)).mono ?_
    rintro e w1 ⟨rfl, hb1⟩
    go_wp2_with fail
    go_ret
    exact ⟨ret_bool HE.out.symm, Below.later (balloc (balloc (brefl _) _) _) hb1⟩
  | true =>
    have HE := Lib.hid (show oddB L n ⟨sf, sk⟩ = !inR 0 ((n : Int) - 1) sk by simp [oddB, h1])
    obtain ⟨q, hq⟩ : ∃ q, inR 0 ((n : Int) - 1) sk = q := ⟨_, rfl⟩
    have Hq := Lib.hid hq
    clear hq
    go_enter Try.func54, Try.ntmps54
    go_wp2_with fail
    refine (within_one 0 L sf (w.heap.size + 1) _ (by simp) (by go_simp)).mono ?_
    rintro e w1 ⟨rfl, hb1⟩
    have k4 : w1.cell? ⟨b4, 0, none⟩ = some (.slice KA n kc) := (hb1.cell (p := ⟨b4, 0, none⟩) (by simp; omega)).trans (by go_simp)
    have k2 : w1.cell? ⟨w.heap.size, 1, none⟩ = some (.int .i64 sk) := (hb1.cell (p := ⟨w.heap.size, 1, none⟩) (by simp; omega)).trans (by go_simp)
    have z1 := hb1.size
    simp at z1
    have z2 : w.heap.size < w1.heap.size := by omega
    have z3 : b4 < w1.heap.size := by omega
    go_wp2_with fail
    refine (within_one 0 ((n : Int) - 1) sk w1.heap.size _ (by simp) (by go_simp)).mono ?_
    rintro e w2 ⟨rfl, hb2⟩
    cases q with
    | false =>
      rw [Hq.out] at HE ⊢
      go_wp2_with fail
      go_ret
      exact ⟨ret_bool HE.out.symm, Below.later (balloc (Below.later (balloc (balloc (brefl _) _) _) hb1) _) hb2⟩
    | true =>
      rw [Hq.out] at HE ⊢
      go_wp2_with fail
      go_ret
      exact ⟨ret_bool HE.out.symm, Below.later (balloc (Below.later (balloc (balloc (brefl _) _) _) hb1) _) hb2⟩

set_option maxHeartbeats 1000000 in
theorem all1_any (b T L : Nat) (FA : Option Addr) (fn fc : Nat) (KA : Option Addr) (kc : Nat) (fs : List Int) (ks : List Kd) (s : Sh) (w : World) (hT : TabOk w T L FA fn fc KA kc fs ks) (hb : b < w.heap.size)
    (h0 : w.cell? ⟨b, 0, none⟩ = some (.func (.func 78) #[.pointer (some ⟨T, 0, none⟩)] #[])) (hs : oddB L ks.length s = false) :
    Calls Try.prog 79 #[.agg #[.int .i64 s.f, .int .i64 s.k], .pointer (some ⟨b, 0, none⟩)] w fun e w' => e = .returned (.bool (!canS L (Fst fs L) ks s)) ∧ Below w.heap.size w w' := by
  obtain ⟨sf, sk⟩ := s
  have hl2 := hT.l2
  simp only [oddB, Bool.or_eq_false_iff, Bool.not_eq_false', inR_iff] at hs
  obtain ⟨⟨s1, s2⟩, s3, s4⟩ := hs
  obtain ⟨f, rfl⟩ : ∃ f : Nat, sf = f := ⟨sf.toNat, by omega⟩
  obtain ⟨k, rfl⟩ : ∃ k : Nat, sk = k := ⟨sk.toNat, by omega⟩
  obtain ⟨x, hx⟩ : ∃ x, ks[k]? = some x := ⟨_, List.getElem?_eq_getElem (by omega)⟩
  have hcan := Lib.hid (fun W hW => can_tab (((hT.later (w' := W) hW).tab).core) hT.kok hl2 (Fst_bd fs hl2) hx f (by omega))
  have HE := Lib.hid (show canS L (Fst fs L) ks ⟨f, k⟩ = canB L (Fst fs L) x f by simp [canS, hx])
  rw [HE.out]
  clear hT HE hx
  have hne : b ≠ w.heap.size := by omega
  go_enter Try.func79, Try.ntmps79
  go_wp2_with fail
  refine (hcan.out _ (balloc (brefl w) _)).mono ?_
  rintro e w1 ⟨rfl, hb1⟩
  have HB := Lib.hid (Below.later (balloc (brefl w) _) hb1)
  clear hb1
  go_wp2_with fail
  go_ret
  exact ⟨rfl, HB.out⟩

set_option maxHeartbeats 1000000 in
theorem all_any (T L : Nat) (FA : Option Addr) (fn fc : Nat) (KA : Option Addr) (kc : Nat) (fs : List Int) (ks : List Kd) (CA : Option Addr) (cn cc : Nat) (cuts : List Sh) (w : World) (hT : TabOk w T L FA fn fc KA kc fs ks)
    (hC : Sl 2 encS w w.heap.size CA cn cc cuts) (hs : cuts.any (oddB L ks.length) = false) :
    Calls Try.prog 57 #[.pointer (some ⟨T, 0, none⟩), .slice CA cn cc] w fun e w' => e = .returned (.bool (!cuts.any (fun s => !canS L (Fst fs L) ks s))) ∧ Below w.heap.size w w' := by
  have hc := Lib.hid (fun W (hb : Below w.heap.size w W) (b : Nat) (hbl : b < W.heap.size) (h0 : W.cell? ⟨b, 0, none⟩ = some (.func (.func 78) #[.pointer (some ⟨T, 0, none⟩)] #[])) =>
    containsS 79 #[.pointer (some ⟨b, 0, none⟩)] (enters_of Try.func79 (by kernel_rfl) rfl) (fun s => !canS L (Fst fs L) ks s) CA cn cc cuts W (hC.later hb)
      (fun x W' hx hW' => all1_any b T L FA fn fc KA kc fs ks x W' ((hT.later hb).later hW') (by have := hW'.size; omega) ((hW'.cell (p := ⟨b, 0, none⟩) hbl).trans h0) (by
        cases ho : oddB L ks.length x with
        | false => rfl
        | true => rw [List.any_eq_true.2 ⟨x, hx, ho⟩] at hs; cases hs)))
  clear hT hC hs
  go_enter Try.func57, Try.ntmps57
  go_wp2_with fail
  refine (hc.out _ (balloc (brefl w) _) w.heap.size (by simp) (by go_simp)).mono ?_
  rintro e w1 ⟨rfl, hb1⟩
  have HB := Lib.hid (Below.later (balloc (brefl w) _) hb1)
  clear hb1
  go_wp2_with fail
  go_ret
  exact ⟨rfl, HB.out⟩

/-- What stands in the walk over the cuts. -/
structure CC (w W : World) (T L : Nat) (FA : Option Addr) (fn fc : Nat) (KA : Option Addr) (kc : Nat) (fs : List Int) (ks : List Kd) (CA : Option Addr) (cn cc : Nat) (cuts : List Sh) : Prop where
  bel : Below w.heap.size w W
  tab : TabOk W T L FA fn fc KA kc fs ks
  cts : Sl 2 encS W W.heap.size CA cn cc cuts
  c0 : W.cell? ⟨w.heap.size, 0, none⟩ = some (.int .i64 L)
  c1 : W.cell? ⟨w.heap.size + 1, 0, none⟩ = some (.slice KA ks.length kc)
  lt : w.heap.size + 1 < W.heap.size
theorem CC.later {w W W' : World} {T L : Nat} {FA : Option Addr} {fn fc : Nat} {KA : Option Addr} {kc : Nat} {fs : List Int} {ks : List Kd} {CA : Option Addr} {cn cc : Nat} {cuts : List Sh} (h : CC w W T L FA fn fc KA kc fs ks CA cn cc cuts) (hb : Below W.heap.size W W') : CC w W' T L FA fn fc KA kc fs ks CA cn cc cuts := by
  have hl := h.lt
  exact ⟨Below.later h.bel hb, h.tab.later hb, h.cts.later hb, (hb.cell (p := ⟨w.heap.size, 0, none⟩) (by show w.heap.size < _; omega)).trans h.c0, (hb.cell (p := ⟨w.heap.size + 1, 0, none⟩) hl).trans h.c1, by have := hb.size; omega⟩

def LoopK (w : World) (T L : Nat) (FA : Option Addr) (fn fc : Nat) (KA : Option Addr) (kc : Nat) (fs : List Int) (ks : List Kd) (CA : Option Addr) (cn cc : Nat) (cuts : List Sh) (n : Nat) (a : Act) (W : World) : Prop :=
  ∃ i next worth, i + n = cn ∧ walkCuts ks (cuts.drop i) next worth = walkCuts ks cuts 0 0 ∧ (0 ≤ next ∧ next ≤ 48) ∧ (0 ≤ worth ∧ worth ≤ 1000 * i) ∧ Fits (none :: none :: none :: some (.pointer (some ⟨w.heap.size, 0, none⟩)) :: some (.pointer (some ⟨w.heap.size + 1, 0, none⟩)) :: none :: none :: none :: some (.pointer (some ⟨T, 0, none⟩)) :: none :: none :: some (.int .i64 worth) :: some (.int .i64 next) :: none :: none :: none :: none :: none :: none :: none :: none :: none :: none :: none :: none :: none :: none :: none :: none :: none :: none :: none :: none :: none :: none :: none :: none :: none :: none :: none :: none :: some (.slice CA cn cc) :: some (.int .i64 (cn : Nat)) :: some (.int .i64 (i : Nat)) :: none :: none :: none :: none :: none :: none :: none :: none :: none :: none :: none :: none :: none :: none :: none :: none :: none :: none :: none :: none :: []) a.tmps.toList ∧ a.defers = [] ∧ CC w W T L FA fn fc KA kc fs ks CA cn cc cuts

set_option maxRecDepth 100000 in
set_option maxHeartbeats 2000000 in
theorem CheckCuts_ok (L : Nat) (FA : Option Addr) (fn fc : Nat) (fs : List Int) (KA : Option Addr) (kc : Nat) (ks : List Kd) (CA : Option Addr) (cn cc : Nat) (cuts : List Sh) (w : World) (hfs : Sl 1 encI w w.heap.size FA fn fc fs) (hks : Sl 3 encK w w.heap.size KA ks.length kc ks)
    (hC : Sl 2 encS w w.heap.size CA cn cc cuts) (he : rkE L fs ks = 0) :
    Calls Try.prog 18 #[.agg #[.int .i64 L, .slice FA fn fc], .slice KA ks.length kc, .slice CA cn cc] w fun e w' => e = .returned (.tuple #[.int .i64 (cutsP L (Fst fs L) ks cuts).1, .int .i64 (cutsP L (Fst fs L) ks cuts).2]) ∧ Below w.heap.size w w' := by
  have ho := Lib.hid (fun W hb => open_ok L FA fn fc fs KA kc ks W (hfs.later (w' := W) hb) (hks.later hb) he)
  have hcl := hC.len
  have hbig := hC.big
  have hcap := hC.cap
  have HC := Lib.hid hC
  obtain ⟨r, hr⟩ : ∃ r, cutsP L (Fst fs L) ks cuts = r := ⟨_, rfl⟩
  rw [hr]
  have HR := Lib.hid hr
  clear hfs hks he hr hC
  go_enter Try.func18, Try.ntmps18
  go_wp2_with fail
  refine (ho.out _ (balloc (balloc (brefl w) _) _)).mono ?_
  rintro e w1 ⟨T, rfl, hb1, hT⟩
  have hB1 := Below.later (balloc (balloc (brefl w) _) _) hb1
  have z0 := hb1.size
  simp at z0
  have hCC : CC w w1 T L FA fn fc KA kc fs ks CA cn cc cuts := ⟨hB1, hT, HC.out.later hB1, (hb1.cell (p := ⟨w.heap.size, 0, none⟩) (by simp; omega)).trans (by go_simp), (hb1.cell (p := ⟨w.heap.size + 1, 0, none⟩) (by simp)).trans (by go_simp), by omega⟩
  have hk6 := hT.kok.2.1
  have hL24 := hT.l2
  have k0 := hCC.c0
  have HCC := Lib.hid hCC
  clear hB1 hb1 hT hCC
  by_cases h1 : L < cuts.length
  · have hd : decide ((cn : Int) ≤ (L : Int)) = false := by simp; omega
    have hd1 : decide ((L : Int) < (cn : Int)) = true := by simp; omega
    have HR2 := Lib.hid (show r = (0, 6) by rw [← HR.out]; simp [cutsP, h1])
    go_wp2
    go_ret2
    exact ⟨by rw [HR2.out]; rfl, HCC.out.bel⟩
  · have hd : decide ((L : Int) < (cn : Int)) = false := by simp; omega
    go_wp2_with fail
    refine (containsS 54 #[.pointer (some ⟨w.heap.size, 0, none⟩), .pointer (some ⟨w.heap.size + 1, 0, none⟩)] (enters_of Try.func54 (by kernel_rfl) rfl) (oddB L ks.length) CA cn cc cuts _ HCC.out.cts
      (fun x W _ hb => odd_any _ _ ks.length kc KA L x W (HCC.out.later hb).c0 (HCC.out.later hb).c1 (by have := (HCC.out.later hb).lt; omega) (HCC.out.later hb).lt (by omega))).mono ?_
    rintro e w2 ⟨rfl, hb2⟩
    have HCC2 := Lib.hid (HCC.out.later hb2)
    clear hb2 HCC k0
    cases h2 : cuts.any (oddB L ks.length) with
    | true =>
      have HR2 := Lib.hid (show r = (0, 3) by rw [← HR.out]; simp [cutsP, h1, h2])
      clear h2
      go_wp2
      go_ret2
      exact ⟨by rw [HR2.out]; rfl, HCC2.out.bel⟩
    | false =>
      have Hodd := Lib.hid h2
      go_wp2_with fail
      refine (all_any T L FA fn fc KA kc fs ks CA cn cc cuts w2 HCC2.out.tab HCC2.out.cts Hodd.out).mono ?_
      rintro e w3 ⟨rfl, hb3⟩
      have HCC3 := Lib.hid (HCC2.out.later hb3)
      clear hb3 HCC2
      cases h3 : cuts.any (fun s => !canS L (Fst fs L) ks s) with
      | true =>
        have HR2 := Lib.hid (show r = (0, 18) by rw [← HR.out]; simp only [cutsP, h1, h2, h3, if_true, if_false]; rfl)
        clear h2 h3
        go_wp2
        go_ret2
        exact ⟨by rw [HR2.out]; rfl, HCC3.out.bel⟩
      | false =>
        have HR2 := Lib.hid (show r = walkCuts ks cuts 0 0 by rw [← HR.out]; simp only [cutsP, h1, h2, h3, if_false]; rfl)
        clear h2 h3
        go_wp2_with fail
        refine loop_n (LoopK w T L FA fn fc KA kc fs ks CA cn cc cuts) cn ?_ ?_
        · refine ⟨0, 0, 0, by omega, by simp, by omega, by omega, ?_, rfl, HCC3.out⟩
          repeat (first | exact fits_nil | refine fits_none ?_ | refine fits_some ?_)
        clear HCC3
        intro n a W hI K hK
        obtain ⟨i, next, worth, hin, hwk, hnx, hwo, hfit, hds, hN⟩ := hI
        obtain ⟨f, hf⟩ := fits_act hfit
        rw [hds] at hf
        subst hf
        clear hfit hds
        simp only [fillP, Nat.reduceAdd]
        obtain ⟨n1, n2⟩ := hnx
        obtain ⟨o1, o2⟩ := hwo
        by_cases hlt : i < cn
        · obtain ⟨b, o, s, hA, hB, hx, g0, g1⟩ := hN.cts.ltS hlt
          have hdr : cuts.drop i = s :: cuts.drop (i + 1) := by
            obtain ⟨hi', rfl⟩ := List.getElem?_eq_some_iff.1 hx
            exact List.drop_eq_getElem_cons hi'
          rw [hdr] at hwk
          have hodd : oddB L ks.length s = false := by
            cases hq : oddB L ks.length s with
            | false => rfl
            | true => have := List.any_eq_true.2 ⟨s, List.mem_of_getElem? hx, hq⟩; rw [Hodd.out] at this; cases this
          obtain ⟨sf, sk⟩ := s
          simp only [oddB, Bool.or_eq_false_iff, Bool.not_eq_false', inR_iff] at hodd
          obtain ⟨⟨s1, s2⟩, s3, s4⟩ := hodd
          obtain ⟨k, rfl⟩ : ∃ k : Nat, sk = k := ⟨sk.toNat, by omega⟩
          obtain ⟨x, hxk⟩ : ∃ x, ks[k]? = some x := ⟨_, List.getElem?_eq_getElem (by omega)⟩
          have hbd := hN.tab.kok.bd hxk
          have hgd : ks.getD k ⟨0, 0, 0⟩ = x := by simp [List.getD, hxk]
          have hend := Lib.hid (fun W' (hb : Below W.heap.size W W') => end_tab ((hN.later hb).tab.tab.core) hN.tab.kok hxk sf s1 (by omega))
          obtain ⟨kb, ko, x', hKA, hkb, hx', e0, e1, _⟩ := hN.tab.tab.core.kds.ltK (List.getElem?_eq_some_iff.1 hxk).1
          rw [hxk] at hx'
          cases hx'
          have hkl : k < ks.length := (List.getElem?_eq_some_iff.1 hxk).1
          have c0 := hN.c0
          have c1 := hN.c1
          have hlW := hN.lt
          subst hA
          subst hKA
          have z0' : w.heap.size + 1 < W.heap.size := hlW
          have i1 : (i : Int) < (cn : Int) := by omega
          have hne1 : kb ≠ W.heap.size := by omega
          simp only [walkCuts, Int.toNat_natCast, hgd] at hwk
          have HN := Lib.hid hN
          by_cases hnx : sf < next
          · rw [if_pos hnx] at hwk
            have hd1 : decide (sf < next) = true := by simpa using hnx
            have HR3 := Lib.hid (show r = (0, 16) by rw [HR2.out, ← hwk])
            clear hwk hN hK hdr hx hxk hgd
            go_wp2_with fail
            go_ret2
            exact ⟨by rw [HR3.out]; rfl, balloc HN.out.bel _⟩
          · rw [if_neg hnx] at hwk
            have hd1 : decide (sf < next) = false := by simpa using hnx
            have Hwk := Lib.hid hwk
            obtain ⟨⟨w1', w2'⟩, ⟨p1, p2⟩, _⟩ := hbd
            clear hwk hN hdr hx hxk hgd
            go_wp2_with fail
            refine (hend.out _ (balloc (brefl W) _)).mono ?_
            rintro e w5 ⟨rfl, hb5⟩
            have hB5 := Below.later (balloc (brefl W) _) hb5
            have hN5 := HN.out.later hB5
            have d0 : w5.cell? ⟨W.heap.size, 0, none⟩ = some (.int .i64 sf) := (hb5.cell (p := ⟨W.heap.size, 0, none⟩) (by simp)).trans (by go_simp)
            have d1 : w5.cell? ⟨W.heap.size, 1, none⟩ = some (.int .i64 k) := (hb5.cell (p := ⟨W.heap.size, 1, none⟩) (by simp)).trans (by go_simp)
            have d2 : W.heap.size < w5.heap.size := by have := hb5.size; simp at this; omega
            have d3 := hN5.c1
            have d4 : w5.cell? ⟨kb, ko + k * 3 + 1, none⟩ = some (.int .i64 x.p) := (hB5.cell (p := ⟨kb, ko + k * 3 + 1, none⟩) hkb).trans e1
            have d5 : kb < w5.heap.size := by omega
            have d6 := hN5.lt
            have HN5 := Lib.hid hN5
            clear hb5 hB5 hN5 c0 c1 e0 e1 g0 g1 HN
            go_wp2
            refine hK _ _ (n - 1) (by omega) ⟨i + 1, sf + x.w, worth + x.p, by omega, Hwk.out, by omega, by omega, ?_, rfl, HN5.out⟩
            repeat (first | exact fits_nil | refine fits_none ?_ | refine fits_some ?_)
        · obtain rfl : i = cn := by omega
          rw [List.drop_of_length_le (by omega)] at hwk
          have HR3 := Lib.hid (show r = (worth, 0) by rw [HR2.out, ← hwk]; rfl)
          have HN := Lib.hid hN
          clear hwk hN hK
          go_wp2
          go_ret2
          exact ⟨by rw [HR3.out]; rfl, HN.out.bel⟩
end Go.Proofs.Ytjmphmnimnbgkaa
