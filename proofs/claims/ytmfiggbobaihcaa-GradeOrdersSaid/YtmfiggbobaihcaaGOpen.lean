/- grade.open; what is known of a valid shop. -/
import Derived.Test.YtmfiggbobaihcaaGStore
import Derived.Test.YtmfiggbobaihcaaGRefCheck
namespace Go.Proofs.Ytmfiggbobaihcaa
open Go.RowKit Go.Shelf

/-- What is known of a valid shop. -/
structure Fine (S P : List Int) (O : List Od) : Prop where
  n1 : 1 ≤ S.length
  n5 : S.length ≤ 5
  o8 : O.length ≤ 8
  len : P.length = S.length
  stk : ∀ x ∈ S, 0 ≤ x ∧ x ≤ 50
  prc : ∀ x ∈ P, 0 ≤ x ∧ x ≤ 100
  ord : ∀ o ∈ O, (0 ≤ o.g ∧ o.g < S.length) ∧ 0 ≤ o.m ∧ o.m ≤ 20
  fall : ∀ j x y, P[j]? = some x → P[j + 1]? = some y → y ≤ x
theorem out_in {lo hi x : Int} (h : outR lo hi x = false) : lo ≤ x ∧ x ≤ hi := by
  rw [outR_eq, outB, Bool.or_eq_false_iff, decide_eq_false_iff_not, decide_eq_false_iff_not] at h; omega
theorem fine_of {S P : List Int} {O : List Od} (h : shopE S P O = 0) : Fine S P O := by
  unfold shopE at h
  split at h
  · cases h
  split at h
  · cases h
  split at h
  · cases h
  split at h
  · cases h
  rename_i h1 h2 h3 h4
  rw [Bool.or_eq_true, not_or, Bool.not_eq_true', Bool.not_eq_false, inR_iff, decide_eq_true_eq] at h1
  rw [Bool.or_eq_true, Bool.or_eq_true, not_or, not_or, Bool.not_eq_true, Bool.not_eq_true, Bool.not_eq_true, List.any_eq_false, List.any_eq_false, List.any_eq_false] at h3
  obtain ⟨⟨h5, h6⟩, h7⟩ := h3
  refine ⟨by omega, by omega, by omega, by omega, fun x hx => out_in (by simpa using h5 x hx), fun x hx => out_in (by simpa using h6 x hx), fun o ho => ?_, fun j x y hx hy => ?_⟩
  · have h8 := h7 o ho
    unfold strayB at h8
    rw [Bool.or_eq_true, not_or, Bool.not_eq_true', Bool.not_eq_true', Bool.not_eq_false, Bool.not_eq_false, inR_iff, inR_iff] at h8
    omega
  · have h8 : ¬ x < y := fun hlt => h4 ((riseB_iff P).2 ⟨j, x, y, hx, hy, hlt⟩)
    omega
theorem fine_iff {S P : List Int} {O : List Od} (h : Fine S P O) : shopE S P O = 0 := by
  have h0 : ¬ ((S.length : Int) < 1 ∨ (5 : Int) < S.length ∨ (8 : Int) < O.length) := by have := h.n1; have := h.n5; have := h.o8; omega
  have hS : S.any (outR 0 50) = false := List.any_eq_false.2 fun x hx => by have := h.stk x hx; rw [outR_eq, outB, Bool.or_eq_true, decide_eq_true_eq, decide_eq_true_eq]; omega
  have hP : P.any (outR 0 100) = false := List.any_eq_false.2 fun x hx => by have := h.prc x hx; rw [outR_eq, outB, Bool.or_eq_true, decide_eq_true_eq, decide_eq_true_eq]; omega
  have hO : O.any (strayB S.length) = false := List.any_eq_false.2 fun o ho => by
    have := h.ord o ho
    unfold strayB
    rw [Bool.or_eq_true, Bool.not_eq_true', Bool.not_eq_true', inR_no, inR_no]
    omega
  rw [shopE_in h0 h.len, hS, hP, hO, if_neg (by decide), if_neg]
  intro hr
  obtain ⟨j, x, y, h1, h2, h3⟩ := (riseB_iff P).1 hr
  have := h.fall j x y h1 h2
  omega
section
variable (SA : Option Addr) (sn sc : Nat) (PA : Option Addr) (pn pc : Nat) (OA : Option Addr) (on oc : Nat) (S P : List Int) (O : List Od) (w : World) (hs : ShopIn w w.heap.size SA sn sc PA pn pc OA on oc S P O)
include hs
set_option maxHeartbeats 1000000 in
theorem open_bad (hne : shopE S P O ≠ 0) : Calls Try.prog 56 #[.agg #[.slice SA sn sc, .slice PA pn pc, .slice OA on oc]] w fun e w' => e = .returned (.tuple #[.pointer none, .int .i64 (shopE S P O)]) ∧ Below w.heap.size w w' := by
  obtain rfl := hs.stk.len
  obtain rfl := hs.prc.len
  obtain rfl := hs.ord.len
  have HG0 := Lib.hid (GW.start hs)
  obtain ⟨g0, g1, g2, g3⟩ := HG0.out.cells
  have hc := Lib.hid (fun W (h : ShopIn W W.heap.size SA S.length sc PA P.length pc OA O.length oc S P O) => checkShop_any SA S.length sc PA P.length pc OA O.length oc S P O W h)
  obtain ⟨q, hq⟩ : ∃ q, shopE S P O = q := ⟨_, rfl⟩
  rw [hq] at hc hne ⊢
  have d1 : (q != 0) = true := by simpa using hne
  clear hs hq hne
  go_enter Try.func56, Try.ntmps56
  go_wp2_with fail
  refine (hc.out _ HG0.out.sh).mono ?_
  rintro e w1 ⟨rfl, hb⟩
  have HG1 := Lib.hid (HG0.out.later hb)
  clear hb HG0 g0 g1 g2 g3
  obtain ⟨g0, g1, g2, g3⟩ := HG1.out.cells
  go_wp2
  go_ret2
  exact ⟨rfl, HG1.out.bel⟩
set_option maxHeartbeats 1000000 in
theorem open_ok (he : shopE S P O = 0) : Calls Try.prog 56 #[.agg #[.slice SA sn sc, .slice PA pn pc, .slice OA on oc]] w fun e w' => ∃ T, e = .returned (.tuple #[.pointer (some ⟨T, 0, none⟩), .int .i64 0]) ∧ Below w.heap.size w w' ∧ StIn w' T SA sn sc PA pn pc OA on oc S P O (stockM S) ∧ w.heap.size ≤ T := by
  obtain rfl := hs.stk.len
  obtain rfl := hs.prc.len
  obtain rfl := hs.ord.len
  have HG0 := Lib.hid (GW.start hs)
  obtain ⟨g0, g1, g2, g3⟩ := HG0.out.cells
  have hc := Lib.hid (fun W (h : ShopIn W W.heap.size SA S.length sc PA P.length pc OA O.length oc S P O) => checkShop_any SA S.length sc PA P.length pc OA O.length oc S P O W h)
  have h5 := Lib.hid (fine_of he).n5
  rw [he] at hc
  clear hs he
  go_enter Try.func56, Try.ntmps56
  go_wp2_with fail
  refine (hc.out _ HG0.out.sh).mono ?_
  rintro e w2 ⟨rfl, hb⟩
  have HG1 := Lib.hid (HG0.out.later hb)
  clear hb HG0 g0 g1 g2 g3
  obtain ⟨g0, g1, g2, g3⟩ := HG1.out.cells
  have hsz := Lib.hid (HG1.out.bel.size)
  go_wp2_with fail
  refine (newStore_any _ _ _ _ _ _ _ _ _ S P O _ HG1.out.sh h5.out).mono ?_
  rintro e w3 ⟨T, rfl, hb, hst, hT⟩
  have HG2 := Lib.hid (HG1.out.later hb)
  clear hb HG1 g0 g1 g2 g3
  obtain ⟨g0, g1, g2, g3⟩ := HG2.out.cells
  have HT := Lib.hid hst
  clear hst
  go_wp2
  go_ret2
  exact ⟨T, rfl, HG2.out.bel, HT.out, by have := hsz.out; omega⟩
end
end Go.Proofs.Ytmfiggbobaihcaa
