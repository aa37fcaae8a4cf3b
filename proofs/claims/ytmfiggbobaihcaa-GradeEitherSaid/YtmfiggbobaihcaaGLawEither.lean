/- The walk of GradeEither. -/
import Derived.Test.YtmfiggbobaihcaaGFilled
namespace Go.Proofs.Ytmfiggbobaihcaa
open Go.RowKit Go.Shelf

/-- What Short returns, of a fine shop. -/
theorem fstF_can {n : Nat} {O : List Od} {M : Nat → Int} (h : canB n O M = true) : firstF n O M = (0, 5) := by
  have h1 : (List.range n).find? (fun g => decide (0 < shortI O M g)) = none := find_no fun j hj => by
    have := (canB_iff n O M).1 h j hj
    rw [decide_eq_false_iff_not]
    omega
  unfold firstF
  rw [h1]
theorem fstF_no {n : Nat} {O : List Od} {M : Nat → Int} (h : canB n O M = false) : ∃ g : Nat, firstF n O M = ((g : Int), 0) ∧ g < n ∧ 0 < shortI O M g ∧ ∀ j, j < n → 0 < shortI O M j → g ≤ j := by
  unfold firstF
  cases hf : (List.range n).find? (fun g => decide (0 < shortI O M g)) with
  | none =>
    rw [List.find?_range_eq_none] at hf
    have : canB n O M = true := (canB_iff n O M).2 fun g hg => by
      have := hf g hg
      simpa using this
    rw [h] at this
    cases this
  | some g =>
    rw [List.find?_range_eq_some] at hf
    obtain ⟨h1, h2, h3⟩ := hf
    refine ⟨g, rfl, List.mem_range.1 h2, by simpa using h1, fun j _ hj => ?_⟩
    by_cases e : g ≤ j
    · exact e
    · have := h3 j (by omega)
      simp only [Bool.not_eq_true', decide_eq_false_iff_not] at this
      exact absurd hj this
theorem fillR_snd {S P : List Int} {O : List Od} {X : List (List Int)} : (fillR S P O X).2 = fillE S P O X := by
  unfold fillR
  by_cases h : fillE S P O X = 0
  · rw [if_neg (fun h' => h' h), h]
  · rw [if_pos h]
set_option maxRecDepth 100000 in
set_option maxHeartbeats 8000000 in
theorem either_law (SA : Option Addr) (sn sc : Nat) (PA : Option Addr) (pn pc : Nat) (OA : Option Addr) (on oc : Nat) (S P : List Int) (O : List Od) (BA : Option Addr) (bn bc : Nat) (bs : List Nat) (u : Int) (w : World) (hs : ShopIn w w.heap.size SA sn sc PA pn pc OA on oc S P O) (hbs : Sl 1 encB w w.heap.size BA bn bc bs) (hbd : ∀ x ∈ bs, x < 256) (hu : 0 ≤ u ∧ u ≤ 255) : Calls Try.prog 7 #[.agg #[.slice SA sn sc, .slice PA pn pc, .slice OA on oc], .slice BA bn bc, .int .u8 u] w fun e w' => e = .returned (.bool true) ∧ Below w.heap.size w w' := by
  obtain rfl := hs.stk.len
  obtain rfl := hs.prc.len
  obtain rfl := hs.ord.len
  have HG0 := Lib.hid (GW.start hs)
  obtain ⟨g0, g1, g2, g3⟩ := HG0.out.cells
  have HB0 := Lib.hid (hbs.later (balloc (brefl w) (.cells #[.slice SA S.length sc, .slice PA P.length pc, .slice OA O.length oc] 25)))
  have Hf := Lib.hid (fun W (h : ShopIn W W.heap.size SA S.length sc PA P.length pc OA O.length oc S P O) => fine_any SA S.length sc PA P.length pc OA O.length oc S P O W h)
  by_cases he : shopE S P O = 0
  case neg =>
    rw [decide_eq_false he] at Hf
    clear hs he hbs hbd hu HB0
    go_enter Try.func7, Try.ntmps7
    go_wp2_with fail
    refine (Hf.out _ HG0.out.sh).mono ?_
    rintro e w1 ⟨rfl, hb⟩
    have HG1 := Lib.hid (HG0.out.later hb)
    clear hb HG0 g0 g1 g2 g3
    obtain ⟨g0, g1, g2, g3⟩ := HG1.out.cells
    go_wp2_with fail
    refine (works_any _).mono ?_
    rintro e we ⟨rfl, hbe⟩
    have HBE := Lib.hid (Below.later HG1.out.bel hbe)
    clear hbe
    go_wp2
    go_ret
    exact ⟨rfl, HBE.out⟩
  case pos =>
  rw [decide_eq_true he] at Hf
  cases hd : decide ((50 : Int) < (bn : Int)) with
  | true =>
    clear hs hbs hbd hu HB0 he
    go_enter Try.func7, Try.ntmps7
    go_wp2_with fail
    refine (Hf.out _ HG0.out.sh).mono ?_
    rintro e w2 ⟨rfl, hb⟩
    have HG1 := Lib.hid (HG0.out.later hb)
    clear hb HG0 g0 g1 g2 g3
    obtain ⟨g0, g1, g2, g3⟩ := HG1.out.cells
    go_wp2_with fail
    refine (works_any _).mono ?_
    rintro e we ⟨rfl, hbe⟩
    have HBE := Lib.hid (Below.later HG1.out.bel hbe)
    clear hbe
    go_wp2
    go_ret
    exact ⟨rfl, HBE.out⟩
  | false =>
  have h50 : bn ≤ 50 := by rw [decide_eq_false_iff_not] at hd; omega
  have hF := fine_of he
  have n5 := hF.n5
  have n1 := hF.n1
  have HF := Lib.hid hF
  have o8 := hF.o8
  obtain ⟨i, hi⟩ : ∃ i : Nat, u.tmod (S.length : Int) = (i : Int) := ⟨(u.tmod (S.length : Int)).toNat, by
    rw [Int.tmod_eq_emod_of_nonneg hu.1]
    have := Int.emod_nonneg u (show (S.length : Int) ≠ 0 by omega)
    omega⟩
  have hil : i < S.length := by
    have h1 := Int.emod_lt_of_pos u (show (0 : Int) < (S.length : Int) by omega)
    rw [Int.tmod_eq_emod_of_nonneg hu.1] at hi
    omega
  have hw1 : IntKind.i64.wrap u = u := by rw [IntKind.wrap_i64]; omega
  have hw2 : IntKind.i64.wrap (i : Int) = (i : Int) := by rw [IntKind.wrap_i64]; omega
  have hz0 : ¬ (S.length : Int) = 0 := by omega
  have hE : chShortR S P O (i : Int) = (shortI O (stockM S) i, 0) := by
    unfold chShortR
    rw [if_neg (fun h => h he), show inR 0 ((S.length : Int) - 1) (i : Int) = true by unfold inR; simp; omega]
    rfl
  have hR : shortR S P O = firstF S.length O (stockM S) := by unfold shortR; rw [if_neg (fun h => h he)]
  have Hcs := Lib.hid (fun W (h : ShopIn W W.heap.size SA S.length sc PA P.length pc OA O.length oc S P O) => checkShort_any SA S.length sc PA P.length pc OA O.length oc S P O W h (i : Int))
  have Hsh := Lib.hid (fun W (h : ShopIn W W.heap.size SA S.length sc PA P.length pc OA O.length oc S P O) => shortA_any SA S.length sc PA P.length pc OA O.length oc S P O W h)
  have Hfl := Lib.hid (fun W (h : ShopIn W W.heap.size SA S.length sc PA P.length pc OA O.length oc S P O) (hb : Sl 1 encB W W.heap.size BA bn bc bs) => filled_any SA S.length sc PA P.length pc OA O.length oc S P O BA bn bc bs W h hb hbd h50 he)
  rw [hE] at Hcs
  rw [hR] at Hsh
  have Hck := Lib.hid (fun A c L W (h : ShopIn W W.heap.size SA S.length sc PA P.length pc OA O.length oc S P O) (hl : FillIn W A O.length c L) => checkFill_any SA S.length sc PA P.length pc OA O.length oc S P O A O.length c L W h hl (by omega))
  cases hc : canB S.length O (stockM S) with
  | true =>
    have Hl := Lib.hid (fun W (h : ShopIn W W.heap.size SA S.length sc PA P.length pc OA O.length oc S P O) => least_ok SA S.length sc PA P.length pc OA O.length oc S P O W h he hc)
    have hn : ¬ (0 : Int) < shortI O (stockM S) i := by have := (canB_iff _ _ _).1 hc i hil; omega
    rw [fstF_can hc] at Hsh
    generalize shortI O (stockM S) i = n at *
    clear hs hbs hbd hu he hc hE hR
    go_enter Try.func7, Try.ntmps7
    go_wp2_with fail
    refine (Hf.out _ HG0.out.sh).mono ?_
    rintro e w3 ⟨rfl, hb⟩
    have HG1 := Lib.hid (HG0.out.later hb)
    have HB1 := Lib.hid (HB0.out.later hb)
    clear hb HG0 HB0 g0 g1 g2 g3
    obtain ⟨g0, g1, g2, g3⟩ := HG1.out.cells
    go_wp2_with fail
    refine (Hl.out _ HG1.out.sh).mono ?_
    rintro e w4 ⟨X, rfl, hb, hX⟩
    have HG2 := Lib.hid (HG1.out.later hb)
    have HB2 := Lib.hid (HB1.out.later hb)
    clear hb HG1 HB1 g0 g1 g2 g3
    obtain ⟨g0, g1, g2, g3⟩ := HG2.out.cells
    clear hX X
    go_wp2_with fail
    refine (Hsh.out _ HG2.out.sh).mono ?_
    rintro e w5 ⟨rfl, hb⟩
    have HG3 := Lib.hid (HG2.out.later hb)
    have HB3 := Lib.hid (HB2.out.later hb)
    clear hb HG2 HB2 g0 g1 g2 g3
    obtain ⟨g0, g1, g2, g3⟩ := HG3.out.cells
    go_wp2_with fail
    refine (Hfl.out _ HG3.out.sh HB3.out).mono ?_
    rintro e w6 ⟨A1, c1, L, rfl, hb, hfl, hsz, hfe⟩
    have HG4 := Lib.hid (HG3.out.later hb)
    have HB4 := Lib.hid (HB3.out.later hb)
    clear hb HG3 HB3 g0 g1 g2 g3
    obtain ⟨g0, g1, g2, g3⟩ := HG4.out.cells
    have HL4 := Lib.hid hfl
    clear hfl hsz
    have Hck2 := Lib.hid (fun W h hl => Hck.out A1 c1 L W h hl)
    rw [fillR_snd] at Hck2
    generalize (fillR S P O (rowsX L)).1 = x1 at *
    generalize fillE S P O (rowsX L) = q1 at *
    clear Hck
    rcases hfe with rfl | rfl
    ·
      go_wp2_with fail
      refine (Hck2.out _ HG4.out.sh HL4.out).mono ?_
      rintro e w7 ⟨rfl, hb⟩
      have HG5 := Lib.hid (HG4.out.later hb)
      have HB5 := Lib.hid (HB4.out.later hb)
      have HL5 := Lib.hid (HL4.out.later hb)
      clear hb HG4 HB4 HL4 g0 g1 g2 g3
      obtain ⟨g0, g1, g2, g3⟩ := HG5.out.cells
      go_wp2_with fail
      refine (Hcs.out _ HG5.out.sh).mono ?_
      rintro e w8 ⟨rfl, hb⟩
      have HG6 := Lib.hid (HG5.out.later hb)
      have HB6 := Lib.hid (HB5.out.later hb)
      have HL6 := Lib.hid (HL5.out.later hb)
      clear hb HG5 HB5 HL5 g0 g1 g2 g3
      obtain ⟨g0, g1, g2, g3⟩ := HG6.out.cells
      go_wp2_with fail
      refine (works_any _).mono ?_
      rintro e we ⟨rfl, hbe⟩
      have HBE := Lib.hid (Below.later HG6.out.bel hbe)
      clear hbe
      go_wp2
      go_ret
      exact ⟨rfl, HBE.out⟩
    ·
      go_wp2_with fail
      refine (Hck2.out _ HG4.out.sh HL4.out).mono ?_
      rintro e w9 ⟨rfl, hb⟩
      have HG5 := Lib.hid (HG4.out.later hb)
      have HB5 := Lib.hid (HB4.out.later hb)
      have HL5 := Lib.hid (HL4.out.later hb)
      clear hb HG4 HB4 HL4 g0 g1 g2 g3
      obtain ⟨g0, g1, g2, g3⟩ := HG5.out.cells
      go_wp2_with fail
      refine (Hcs.out _ HG5.out.sh).mono ?_
      rintro e w10 ⟨rfl, hb⟩
      have HG6 := Lib.hid (HG5.out.later hb)
      have HB6 := Lib.hid (HB5.out.later hb)
      have HL6 := Lib.hid (HL5.out.later hb)
      clear hb HG5 HB5 HL5 g0 g1 g2 g3
      obtain ⟨g0, g1, g2, g3⟩ := HG6.out.cells
      go_wp2_with fail
      refine (works_any _).mono ?_
      rintro e we ⟨rfl, hbe⟩
      have HBE := Lib.hid (Below.later HG6.out.bel hbe)
      clear hbe
      go_wp2
      go_ret
      exact ⟨rfl, HBE.out⟩
  | false =>
    have Hl := Lib.hid (fun W (h : ShopIn W W.heap.size SA S.length sc PA P.length pc OA O.length oc S P O) => least_no SA S.length sc PA P.length pc OA O.length oc S P O W h he hc)
    obtain ⟨g, hg1, hg2, hg3, hg4⟩ := fstF_no hc
    have hg5 : 0 < shortI O (stockM S) i → g ≤ i := hg4 i hil
    rw [hg1] at Hsh
    have hE2 : chShortR S P O (g : Int) = (shortI O (stockM S) g, 0) := by
      unfold chShortR
      rw [if_neg (fun h => h he), show inR 0 ((S.length : Int) - 1) (g : Int) = true by unfold inR; simp; omega]
      rfl
    have Hcg := Lib.hid (fun W (h : ShopIn W W.heap.size SA S.length sc PA P.length pc OA O.length oc S P O) => checkShort_any SA S.length sc PA P.length pc OA O.length oc S P O W h (g : Int))
    rw [hE2] at Hcg
    have Hso := Lib.hid (fun W (h : ShopIn W W.heap.size SA S.length sc PA P.length pc OA O.length oc S P O) => refShortOf_any SA S.length sc PA P.length pc OA O.length oc S P O W h g hg2 n5 o8 (fun o ho => (hF.ord o ho).2) (fun x hx => by have := hF.stk x hx; omega))
    have Hno := Lib.hid (show ∀ L : List Rw, fillE S P O (rowsX L) ≠ 0 from fun L h => by
      have h1 := can_right hF (fillE_right h).2
      rw [hc] at h1
      cases h1)
    have k1 : ¬ (g : Int) < 0 := by omega
    have k2 : ¬ (S.length : Int) ≤ (g : Int) := by omega
    generalize shortI O (stockM S) g = m at *
    generalize shortI O (stockM S) i = n at *
    clear hs hbs hbd hu he hc hE hR hE2 hg4 hg1
    by_cases hn : 0 < n
    · have k3 : ¬ (i : Int) < (g : Int) := by have := hg5 hn; omega
      clear hg5
      go_enter Try.func7, Try.ntmps7
      go_wp2_with fail
      refine (Hf.out _ HG0.out.sh).mono ?_
      rintro e w11 ⟨rfl, hb⟩
      have HG1 := Lib.hid (HG0.out.later hb)
      have HB1 := Lib.hid (HB0.out.later hb)
      clear hb HG0 HB0 g0 g1 g2 g3
      obtain ⟨g0, g1, g2, g3⟩ := HG1.out.cells
      go_wp2_with fail
      refine (Hl.out _ HG1.out.sh).mono ?_
      rintro e w12 ⟨rfl, hb⟩
      have HG2 := Lib.hid (HG1.out.later hb)
      have HB2 := Lib.hid (HB1.out.later hb)
      clear hb HG1 HB1 g0 g1 g2 g3
      obtain ⟨g0, g1, g2, g3⟩ := HG2.out.cells
      go_wp2_with fail
      refine (Hsh.out _ HG2.out.sh).mono ?_
      rintro e w13 ⟨rfl, hb⟩
      have HG3 := Lib.hid (HG2.out.later hb)
      have HB3 := Lib.hid (HB2.out.later hb)
      clear hb HG2 HB2 g0 g1 g2 g3
      obtain ⟨g0, g1, g2, g3⟩ := HG3.out.cells
      go_wp2_with fail
      refine (Hfl.out _ HG3.out.sh HB3.out).mono ?_
      rintro e w14 ⟨A1, c1, L, rfl, hb, hfl, hsz, hfe⟩
      have HG4 := Lib.hid (HG3.out.later hb)
      have HB4 := Lib.hid (HB3.out.later hb)
      clear hb HG3 HB3 g0 g1 g2 g3
      obtain ⟨g0, g1, g2, g3⟩ := HG4.out.cells
      have HL4 := Lib.hid hfl
      have hfx := hfe.resolve_left (Hno.out L)
      clear hfl hsz hfe
      have Hck2 := Lib.hid (fun W h hl => Hck.out A1 c1 L W h hl)
      rw [fillR_snd] at Hck2
      generalize (fillR S P O (rowsX L)).1 = x1 at *
      generalize fillE S P O (rowsX L) = q1 at *
      subst hfx
      clear Hck Hno
      go_wp2_with fail
      refine (Hck2.out _ HG4.out.sh HL4.out).mono ?_
      rintro e w15 ⟨rfl, hb⟩
      have HG5 := Lib.hid (HG4.out.later hb)
      have HB5 := Lib.hid (HB4.out.later hb)
      have HL5 := Lib.hid (HL4.out.later hb)
      clear hb HG4 HB4 HL4 g0 g1 g2 g3
      obtain ⟨g0, g1, g2, g3⟩ := HG5.out.cells
      go_wp2_with fail
      refine (Hcs.out _ HG5.out.sh).mono ?_
      rintro e w16 ⟨rfl, hb⟩
      have HG6 := Lib.hid (HG5.out.later hb)
      have HB6 := Lib.hid (HB5.out.later hb)
      have HL6 := Lib.hid (HL5.out.later hb)
      clear hb HG5 HB5 HL5 g0 g1 g2 g3
      obtain ⟨g0, g1, g2, g3⟩ := HG6.out.cells
      go_wp2_with fail
      refine (Hcg.out _ HG6.out.sh).mono ?_
      rintro e w17 ⟨rfl, hb⟩
      have HG7 := Lib.hid (HG6.out.later hb)
      have HB7 := Lib.hid (HB6.out.later hb)
      have HL7 := Lib.hid (HL6.out.later hb)
      clear hb HG6 HB6 HL6 g0 g1 g2 g3
      obtain ⟨g0, g1, g2, g3⟩ := HG7.out.cells
      go_wp2_with fail
      refine (Hso.out _ HG7.out.sh).mono ?_
      rintro e w18 ⟨rfl, hb⟩
      have HG8 := Lib.hid (HG7.out.later hb)
      have HB8 := Lib.hid (HB7.out.later hb)
      have HL8 := Lib.hid (HL7.out.later hb)
      clear hb HG7 HB7 HL7 g0 g1 g2 g3
      obtain ⟨g0, g1, g2, g3⟩ := HG8.out.cells
      go_wp2_with fail
      refine (works_any _).mono ?_
      rintro e we ⟨rfl, hbe⟩
      have HBE := Lib.hid (Below.later HG8.out.bel hbe)
      clear hbe
      go_wp2
      go_ret
      exact ⟨rfl, HBE.out⟩
    · clear hg5
      go_enter Try.func7, Try.ntmps7
      go_wp2_with fail
      refine (Hf.out _ HG0.out.sh).mono ?_
      rintro e w19 ⟨rfl, hb⟩
      have HG1 := Lib.hid (HG0.out.later hb)
      have HB1 := Lib.hid (HB0.out.later hb)
      clear hb HG0 HB0 g0 g1 g2 g3
      obtain ⟨g0, g1, g2, g3⟩ := HG1.out.cells
      go_wp2_with fail
      refine (Hl.out _ HG1.out.sh).mono ?_
      rintro e w20 ⟨rfl, hb⟩
      have HG2 := Lib.hid (HG1.out.later hb)
      have HB2 := Lib.hid (HB1.out.later hb)
      clear hb HG1 HB1 g0 g1 g2 g3
      obtain ⟨g0, g1, g2, g3⟩ := HG2.out.cells
      go_wp2_with fail
      refine (Hsh.out _ HG2.out.sh).mono ?_
      rintro e w21 ⟨rfl, hb⟩
      have HG3 := Lib.hid (HG2.out.later hb)
      have HB3 := Lib.hid (HB2.out.later hb)
      clear hb HG2 HB2 g0 g1 g2 g3
      obtain ⟨g0, g1, g2, g3⟩ := HG3.out.cells
      go_wp2_with fail
      refine (Hfl.out _ HG3.out.sh HB3.out).mono ?_
      rintro e w22 ⟨A1, c1, L, rfl, hb, hfl, hsz, hfe⟩
      have HG4 := Lib.hid (HG3.out.later hb)
      have HB4 := Lib.hid (HB3.out.later hb)
      clear hb HG3 HB3 g0 g1 g2 g3
      obtain ⟨g0, g1, g2, g3⟩ := HG4.out.cells
      have HL4 := Lib.hid hfl
      have hfx := hfe.resolve_left (Hno.out L)
      clear hfl hsz hfe
      have Hck2 := Lib.hid (fun W h hl => Hck.out A1 c1 L W h hl)
      rw [fillR_snd] at Hck2
      generalize (fillR S P O (rowsX L)).1 = x1 at *
      generalize fillE S P O (rowsX L) = q1 at *
      subst hfx
      clear Hck Hno
      go_wp2_with fail
      refine (Hck2.out _ HG4.out.sh HL4.out).mono ?_
      rintro e w23 ⟨rfl, hb⟩
      have HG5 := Lib.hid (HG4.out.later hb)
      have HB5 := Lib.hid (HB4.out.later hb)
      have HL5 := Lib.hid (HL4.out.later hb)
      clear hb HG4 HB4 HL4 g0 g1 g2 g3
      obtain ⟨g0, g1, g2, g3⟩ := HG5.out.cells
      go_wp2_with fail
      refine (Hcs.out _ HG5.out.sh).mono ?_
      rintro e w24 ⟨rfl, hb⟩
      have HG6 := Lib.hid (HG5.out.later hb)
      have HB6 := Lib.hid (HB5.out.later hb)
      have HL6 := Lib.hid (HL5.out.later hb)
      clear hb HG5 HB5 HL5 g0 g1 g2 g3
      obtain ⟨g0, g1, g2, g3⟩ := HG6.out.cells
      go_wp2_with fail
      refine (Hcg.out _ HG6.out.sh).mono ?_
      rintro e w25 ⟨rfl, hb⟩
      have HG7 := Lib.hid (HG6.out.later hb)
      have HB7 := Lib.hid (HB6.out.later hb)
      have HL7 := Lib.hid (HL6.out.later hb)
      clear hb HG6 HB6 HL6 g0 g1 g2 g3
      obtain ⟨g0, g1, g2, g3⟩ := HG7.out.cells
      go_wp2_with fail
      refine (Hso.out _ HG7.out.sh).mono ?_
      rintro e w26 ⟨rfl, hb⟩
      have HG8 := Lib.hid (HG7.out.later hb)
      have HB8 := Lib.hid (HB7.out.later hb)
      have HL8 := Lib.hid (HL7.out.later hb)
      clear hb HG7 HB7 HL7 g0 g1 g2 g3
      obtain ⟨g0, g1, g2, g3⟩ := HG8.out.cells
      go_wp2_with fail
      refine (works_any _).mono ?_
      rintro e we ⟨rfl, hbe⟩
      have HBE := Lib.hid (Below.later HG8.out.bel hbe)
      clear hbe
      go_wp2
      go_ret
      exact ⟨rfl, HBE.out⟩
end Go.Proofs.Ytmfiggbobaihcaa
