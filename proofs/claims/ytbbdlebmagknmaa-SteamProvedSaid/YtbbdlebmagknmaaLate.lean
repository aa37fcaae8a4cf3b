/- Plain law of chapter 3: the document's late loads are the greedy ones. No program. -/
import Derived.Test.YtbbdlebmagknmaaLeast
namespace Go.Proofs.Ytbbdlebmagknmaa.Fill

theorem sorted_split (h : Int) : ∀ ts : List Int, ts.Pairwise (· ≤ ·) → ts.filter (fun t => decide (t ≤ h)) = ts.filter (fun t => decide (t ≤ h - 1)) ++ ts.filter (fun t => decide (t = h))
  | [], _ => rfl
  | t :: ts, hs => by
    obtain ⟨h1, h2⟩ := List.pairwise_cons.1 hs
    have ih := sorted_split h ts h2
    by_cases c1 : t ≤ h - 1
    · rw [List.filter_cons_of_pos (by simpa using (by omega : t ≤ h)), List.filter_cons_of_pos (by simpa using c1), List.filter_cons_of_neg (by simp; omega), ih]
      rfl
    · have hz : ts.filter (fun t => decide (t ≤ h - 1)) = [] := List.filter_eq_nil_iff.2 fun u hu => by have := h1 u hu; simp; omega
      rw [hz, List.nil_append] at ih
      rw [List.filter_cons_of_neg (p := fun t => decide (t ≤ h - 1)) (by simpa using c1), hz, List.nil_append]
      by_cases c2 : t = h
      · rw [List.filter_cons_of_pos (by simp; omega), List.filter_cons_of_pos (by simpa using c2), ih]
      · rw [List.filter_cons_of_neg (by simp; omega), List.filter_cons_of_neg (by simpa using c2), ih]
theorem filter_repl (h : Int) : ∀ ts : List Int, ts.filter (fun t => decide (t = h)) = List.replicate (ts.countP fun t => decide (t = h)) h
  | [] => rfl
  | t :: ts => by
    by_cases c : t = h
    · rw [List.filter_cons_of_pos (by simpa using c), List.countP_cons_of_pos (by simpa using c), List.replicate_succ, filter_repl h ts, c]
    · rw [List.filter_cons_of_neg (by simpa using c), List.countP_cons_of_neg (by simpa using c), filter_repl h ts]
/-- The document's late loads, of a list of least loads. -/
def lateP (A : Nat → Int) (n : Nat) : List Int := (List.range n).flatMap fun h : Nat => List.replicate (A (h + 1) - A h).toNat (h : Int)
theorem late_upto (ts : List Int) (hs : ts.Pairwise (· ≤ ·)) (h0 : ∀ t ∈ ts, 0 ≤ t) (A : Nat → Int) : ∀ n : Nat, (∀ j, j ≤ n → A j = ((ts.countP fun t => decide (t ≤ (j : Int) - 1) : Nat) : Int)) → lateP A n = ts.filter fun t => decide (t ≤ (n : Int) - 1)
  | 0, _ => by
    have : ts.filter (fun t => decide (t ≤ ((0 : Nat) : Int) - 1)) = [] := List.filter_eq_nil_iff.2 fun t ht => by have := h0 t ht; simp; omega
    rw [this]
    rfl
  | n + 1, hA => by
    have ih := late_upto ts hs h0 A n (fun j hj => hA j (by omega))
    unfold lateP at ih ⊢
    rw [List.range_succ, List.flatMap_append, ih]
    have e1 := hA n (by omega)
    have e2 := hA (n + 1) (Nat.le_refl _)
    rw [show (((n + 1 : Nat) : Int) - 1) = (n : Int) by omega] at e2 ⊢
    have e3 := sorted_split (n : Int) ts hs
    have e4 := congrArg List.length e3
    rw [List.length_append, ← List.countP_eq_length_filter, ← List.countP_eq_length_filter, filter_repl, List.length_replicate] at e4
    rw [e3, filter_repl]
    congr 1
    simp only [List.flatMap_cons, List.flatMap_nil, List.append_nil]
    congr 1
    omega
section
variable {α : Type} (lo hi : α → Int)
/-- **The document's late loads are the greedy ones.** -/
theorem late_fill (L : Nat) (hL : 1 ≤ L) (all l : List α) (hb : ∀ x ∈ all, 0 ≤ lo x ∧ lo x ≤ hi x ∧ hi x ≤ 100) (hs : l.Pairwise (fun a b => hi a ≤ hi b)) (hall : ∀ x ∈ l, x ∈ all) (hc : ∀ p, l.countP p = all.countP p) (f : Nat) (hf : l.length ≤ f) :
    lateP (leastAt lo hi L all 101) 101 = fillL lo hi L f l := by
  have hmem : ∀ t ∈ fillL lo hi L f l, 0 ≤ t ∧ t ≤ 100 := fun t ht => by
    obtain ⟨x, hx, rfl⟩ := fillL_mem lo hi L f l t ht
    have := hb x (hall x hx)
    omega
  rw [late_upto (fillL lo hi L f l) (fillL_sorted lo hi L f l hs) (fun t ht => (hmem t ht).1) _ 101 (fun j hj => least_fill lo hi L hL all l (fun x hx => (hb x hx).1) (fun x hx => (hb x hx).2.1) hs hall hc f hf 101 j hj)]
  exact List.filter_eq_self.2 fun t ht => by have := hmem t ht; simp; omega
end
end Go.Proofs.Ytbbdlebmagknmaa.Fill
