/- The first one of the longest lists, grown with what may follow looked at ahead, is the first longest of all lists. No program. -/
import Derived.Test.YtbbdlebmagknmaaSPick
namespace Go.Proofs.Ytbbdlebmagknmaa
open Go.RowKit Go.Shelf

/-- The document's grown. -/
def grownF (fits : List Nat → Bool) (n : Nat) : Nat → List Nat → List Nat → List Nat
  | 0, _, best => best
  | f + 1, l, best => grownF fits n f l (if decide (l.length + (f + 1) ≤ best.length) || !(fits (l ++ [n - (f + 1)])) then best else
      (if best.length < (grownF fits n f (l ++ [n - (f + 1)]) (l ++ [n - (f + 1)])).length then grownF fits n f (l ++ [n - (f + 1)]) (l ++ [n - (f + 1)]) else best))
theorem pick_app : ∀ (a b : List (List Nat)) (x : List Nat), pickL (a ++ b) x = pickL b (pickL a x)
  | [], _, _ => rfl
  | y :: a, b, x => pick_app a b (if x.length < y.length then y else x)
theorem pick_ge : ∀ (xs : List (List Nat)) (b : List Nat), b.length ≤ (pickL xs b).length
  | [], _ => Nat.le_refl _
  | x :: xs, b => by
    unfold pickL
    have h := pick_ge xs (if b.length < x.length then x else b)
    split at h <;> rename_i hc
    · rw [if_pos hc]; omega
    · rw [if_neg hc]; omega
theorem pick_none : ∀ (xs : List (List Nat)) (b : List Nat), (∀ x ∈ xs, x.length ≤ b.length) → pickL xs b = b
  | [], _, _ => rfl
  | x :: xs, b, h => by
    unfold pickL
    rw [if_neg (by have := h x (by simp); omega)]
    exact pick_none xs b fun y hy => h y (by simp [hy])
theorem pick_from : ∀ (xs : List (List Nat)) (b c : List Nat), c.length ≤ b.length → pickL xs b = if b.length < (pickL xs c).length then pickL xs c else b
  | [], b, c, h => by
    unfold pickL
    rw [if_neg (by omega)]
  | x :: xs, b, c, h => by
    unfold pickL
    by_cases h1 : b.length < x.length
    · have h2 : c.length < x.length := by omega
      rw [if_pos h1, if_pos h2]
      have := pick_ge xs x
      rw [if_pos (by omega)]
    · rw [if_neg h1]
      exact pick_from xs b _ (by split <;> omega)
theorem goL_bound (fits : List Nat → Bool) (n : Nat) : ∀ (f : Nat) (l : List Nat), ∀ x ∈ goL fits n f l, x.length ≤ l.length + f
  | 0, _, x, h => by simp [goL] at h
  | f + 1, l, x, h => by
    unfold goL at h
    rcases List.mem_append.1 h with h | h
    · split at h
      · rcases List.mem_cons.1 h with rfl | h
        · simp
        · have := goL_bound fits n f _ x h
          simp at this
          omega
      · simp at h
    · have := goL_bound fits n f l x h
      omega
/-- **Both find the same list.** -/
theorem grown_pick (fits : List Nat → Bool) (n : Nat) : ∀ (f : Nat) (l best : List Nat), grownF fits n f l best = pickL (goL fits n f l) best
  | 0, _, _ => rfl
  | f + 1, l, best => by
    unfold grownF goL
    rw [pick_app, grown_pick fits n f l]
    congr 1
    obtain ⟨x, hx⟩ : ∃ x, l ++ [n - (f + 1)] = x := ⟨_, rfl⟩
    have hxl : x.length = l.length + 1 := by rw [← hx]; simp
    rw [hx, grown_pick fits n f x x]
    cases hf : fits x with
    | false => simp [pickL]
    | true =>
      simp only [Bool.not_true, Bool.or_false, decide_eq_true_eq, if_true]
      have hb := goL_bound fits n f x
      have hu : pickL (x :: goL fits n f x) best = pickL (goL fits n f x) (if best.length < x.length then x else best) := rfl
      rw [hu]
      by_cases h1 : l.length + (f + 1) ≤ best.length
      · rw [if_pos h1, if_neg (by omega)]
        exact (pick_none _ _ fun y hy => by have := hb y hy; omega).symm
      · rw [if_neg h1]
        by_cases h2 : best.length < x.length
        · rw [if_pos h2]
          have := pick_ge (goL fits n f x) x
          rw [if_pos (by omega)]
        · rw [if_neg h2]
          exact (pick_from _ _ _ (by omega)).symm
/-! ### What the lists are -/
theorem goL_mem (fits : List Nat → Bool) (n : Nat) : ∀ (f : Nat) (l : List Nat), f ≤ n → ∀ x ∈ goL fits n f l, ∃ y, x = l ++ y ∧ y ≠ [] ∧ fits x = true ∧ y.Pairwise (· < ·) ∧ ∀ i ∈ y, n - f ≤ i ∧ i < n
  | 0, _, _, x, h => by simp [goL] at h
  | f + 1, l, hf, x, h => by
    unfold goL at h
    rcases List.mem_append.1 h with h | h
    · split at h
      · rename_i hc
        rcases List.mem_cons.1 h with rfl | h
        · exact ⟨[n - (f + 1)], rfl, by simp, hc, by simp, by simp; omega⟩
        · obtain ⟨y, rfl, h1, h2, h3, h4⟩ := goL_mem fits n f _ (by omega) x h
          refine ⟨(n - (f + 1)) :: y, by simp, by simp, h2, List.pairwise_cons.2 ⟨fun i hi => by have := h4 i hi; omega, h3⟩, fun i hi => ?_⟩
          rcases List.mem_cons.1 hi with rfl | hi
          · omega
          · have := h4 i hi; omega
      · simp at h
    · obtain ⟨y, rfl, h1, h2, h3, h4⟩ := goL_mem fits n f l (by omega) x h
      exact ⟨y, rfl, h1, h2, h3, fun i hi => by have := h4 i hi; omega⟩
/-- Each list all of whose beginnings fit is among them. -/
theorem goL_all (fits : List Nat → Bool) (n : Nat) : ∀ (f : Nat) (l y : List Nat), f ≤ n → y ≠ [] → y.Pairwise (· < ·) → (∀ i ∈ y, n - f ≤ i ∧ i < n) → (∀ k, 1 ≤ k → fits (l ++ y.take k) = true) → l ++ y ∈ goL fits n f l
  | _, _, [], _, h, _, _, _ => absurd rfl h
  | 0, _, i :: y, _, _, _, h, _ => by have := h i (by simp); omega
  | f + 1, l, i :: y, hf, _, hp, hr, hfit => by
    unfold goL
    obtain ⟨h1, h2⟩ := List.pairwise_cons.1 hp
    by_cases e : i = n - (f + 1)
    · subst e
      have h3 := hfit 1 (Nat.le_refl _)
      simp only [List.take_succ_cons, List.take_zero] at h3
      rw [if_pos h3]
      refine List.mem_append_left _ ?_
      by_cases hy : y = []
      · subst hy; exact List.mem_cons_self
      · refine List.mem_cons_of_mem _ ?_
        have h4 := goL_all fits n f (l ++ [n - (f + 1)]) y (by omega) hy h2 (fun j hj => by have := h1 j hj; have := hr j (by simp [hj]); omega) (fun k hk => by
          have := hfit (k + 1) (by omega)
          rw [List.take_succ_cons] at this
          rw [List.append_assoc]
          exact this)
        rw [List.append_assoc] at h4
        exact h4
    · refine List.mem_append_right _ ?_
      exact goL_all fits n f l (i :: y) (by omega) (by simp) hp (fun j hj => by
        have h3 := hr j hj
        have h4 := hr i (by simp)
        rcases List.mem_cons.1 hj with rfl | hj
        · omega
        · have := h1 j hj; omega) hfit
theorem pick_mem : ∀ (xs : List (List Nat)) (b : List Nat), pickL xs b = b ∨ pickL xs b ∈ xs
  | [], _ => .inl rfl
  | x :: xs, b => by
    unfold pickL
    rcases pick_mem xs (if b.length < x.length then x else b) with h | h
    · rw [h]
      split
      · exact .inr (by simp)
      · exact .inl rfl
    · exact .inr (by simp [h])
theorem pick_most : ∀ (xs : List (List Nat)) (b : List Nat), ∀ x ∈ xs, x.length ≤ (pickL xs b).length
  | [], _, x, h => by simp at h
  | y :: xs, b, x, h => by
    unfold pickL
    rcases List.mem_cons.1 h with rfl | h
    · have := pick_ge xs (if b.length < x.length then x else b)
      split at this <;> rename_i hc
      · rw [if_pos hc]; omega
      · rw [if_neg hc]; omega
    · exact pick_most xs _ x h
theorem grown_len (fits : List Nat → Bool) (n f : Nat) (l : List Nat) : (grownF fits n f l l).length ≤ l.length + f := by
  rw [grown_pick]
  rcases pick_mem (goL fits n f l) l with h | h
  · rw [h]; omega
  · exact goL_bound fits n f l _ h
end Go.Proofs.Ytbbdlebmagknmaa
