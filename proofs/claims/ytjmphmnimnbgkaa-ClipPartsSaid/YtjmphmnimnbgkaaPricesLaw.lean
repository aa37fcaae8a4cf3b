/- Plain law: what unit prices prove. No program. -/
import Derived.Test.YtjmphmnimnbgkaaWorth
namespace Go.Proofs.Ytjmphmnimnbgkaa
open Go.RowKit

/-- What all units before a place have together. -/
def psum (ps : List Int) (j : Nat) : Int := (ps.take j).sum
/-- A price is out of its range. -/
def outP (x : Int) : Bool := decide (x < 0) || decide (24000 < x)
theorem psum_zero (ps : List Int) : psum ps 0 = 0 := rfl
theorem psum_succ {ps : List Int} {j : Nat} {x : Int} (h : ps[j]? = some x) : psum ps (j + 1) = psum ps j + x := by
  unfold psum
  obtain ⟨hj, rfl⟩ := List.getElem?_eq_some_iff.1 h
  rw [List.take_succ_eq_append_getElem hj, List.sum_append]
  simp
theorem psum_bd {ps : List Int} {j : Nat} (hj : j ≤ ps.length) (h : ∀ i x, i < j → ps[i]? = some x → outP x = false) : 0 ≤ psum ps j ∧ psum ps j ≤ 24000 * j := by
  induction j with
  | zero => simp [psum]
  | succ j ih =>
    have h1 := ih (by omega) (fun i x hi => h i x (by omega))
    obtain ⟨x, hx⟩ : ∃ x, ps[j]? = some x := ⟨_, List.getElem?_eq_getElem (by omega)⟩
    rw [psum_succ hx]
    have h2 := h j x (by omega) hx
    simp only [outP, Bool.or_eq_false_iff, decide_eq_false_iff_not] at h2
    omega
theorem psum_mono {ps : List Int} {i j : Nat} (hij : i ≤ j) (hj : j ≤ ps.length) (h : ∀ i x, i < j → ps[i]? = some x → outP x = false) : 0 ≤ psum ps j - psum ps i ∧ psum ps j - psum ps i ≤ 24000 * ((j : Int) - i) := by
  obtain ⟨d, rfl⟩ := Nat.exists_eq_add_of_le hij
  induction d with
  | zero => simp
  | succ d ih =>
    have h1 := ih (by omega) (by omega) (fun i x hi => h i x (by omega))
    obtain ⟨x, hx⟩ : ∃ x, ps[i + d]? = some x := ⟨_, List.getElem?_eq_getElem (by omega)⟩
    rw [← Nat.add_assoc, psum_succ hx]
    have h2 := h (i + d) x (by omega) hx
    simp only [outP, Bool.or_eq_false_iff, decide_eq_false_iff_not] at h2
    omega
/-- A sheet that can be cut has unit prices that are its price, at least. -/
def coverAt (L : Nat) (F : Nat → Int) (ks : List Kd) (S : Nat → Int) (fr k : Nat) : Bool := !canI L F ks fr k || decide ((ks.getD k ⟨0, 0, 0⟩).p ≤ S (fr + (ks.getD k ⟨0, 0, 0⟩).w.toNat) - S fr)
def coverB (L : Nat) (F : Nat → Int) (ks : List Kd) (S : Nat → Int) : Bool := (List.range L).all fun fr => (List.range ks.length).all fun k => coverAt L F ks S fr k
def pricesP (L : Nat) (F : Nat → Int) (ks : List Kd) (ps : List Int) : Int × Int :=
  if ps.length ≠ L then (0, 15) else if ps.any outP then (0, 3) else if coverB L F ks (psum ps) then (psum ps L, 0) else (0, 14)
theorem pricesP_len {L : Nat} {F : Nat → Int} {ks : List Kd} {ps : List Int} (h : ps.length ≠ L) : pricesP L F ks ps = (0, 15) := by simp [pricesP, h]
theorem pricesP_out {L : Nat} {F : Nat → Int} {ks : List Kd} {ps : List Int} (h : ps.length = L) {x : Int} (hx : x ∈ ps) (ho : outP x = true) : pricesP L F ks ps = (0, 3) := by
  have : ps.any outP = true := List.any_eq_true.2 ⟨x, hx, ho⟩
  simp [pricesP, h, this]
theorem pricesP_cov {L : Nat} {F : Nat → Int} {ks : List Kd} {ps : List Int} (h : ps.length = L) (ho : ps.any outP = false) : pricesP L F ks ps = if coverB L F ks (psum ps) then (psum ps L, 0) else (0, 14) := by simp [pricesP, h, ho]
theorem cover_no {L : Nat} {F : Nat → Int} {ks : List Kd} {S : Nat → Int} {fr k : Nat} (hf : fr < L) (hk : k < ks.length) (h : coverAt L F ks S fr k = false) : coverB L F ks S = false := by
  cases hc : coverB L F ks S with
  | false => rfl
  | true =>
    have h1 := List.all_eq_true.1 hc fr (List.mem_range.2 hf)
    have h2 := List.all_eq_true.1 h1 k (List.mem_range.2 hk)
    rw [h] at h2; cases h2
theorem cover_yes {L : Nat} {F : Nat → Int} {ks : List Kd} {S : Nat → Int} (h : ∀ fr k, fr < L → k < ks.length → coverAt L F ks S fr k = true) : coverB L F ks S = true :=
  List.all_eq_true.2 fun fr hf => List.all_eq_true.2 fun k hk => h fr k (List.mem_range.1 hf) (List.mem_range.1 hk)
theorem any_out {ps : List Int} (h : ∀ i x, i < ps.length → ps[i]? = some x → outP x = false) : ps.any outP = false := by
  cases hc : ps.any outP with
  | false => rfl
  | true =>
    obtain ⟨x, hx, ho⟩ := List.any_eq_true.1 hc
    obtain ⟨i, hi⟩ := List.getElem?_of_mem hx
    rw [h i x (List.getElem?_eq_some_iff.1 hi).1 hi] at ho
    cases ho
end Go.Proofs.Ytjmphmnimnbgkaa
