/- Plain law: how many best cuts there are, step by step; they are at most 6 to the power of the units. No program. -/
import Derived.Test.YtjmphmnimnbgkaaWorth
namespace Go.Proofs.Ytjmphmnimnbgkaa
open Go.RowKit

/-- The counts at the places from i on, when the sheets of some kinds at place i have been looked at. -/
def manyIn (ks : List Kd) (i : Nat) (Bh : Nat → Int) (M : Nat → Int) : List Nat → Nat → Int
  | [] => M
  | k :: l => manyIn ks i Bh (if (ks.getD k ⟨0, 0, 0⟩).p + Bh (i + (ks.getD k ⟨0, 0, 0⟩).w.toNat) = Bh i then upd M i (M i + M (i + (ks.getD k ⟨0, 0, 0⟩).w.toNat)) else M) l
theorem manyIn_snoc (ks : List Kd) (i : Nat) (Bh M : Nat → Int) (l : List Nat) (k : Nat) : manyIn ks i Bh M (l ++ [k]) =
    if (ks.getD k ⟨0, 0, 0⟩).p + Bh (i + (ks.getD k ⟨0, 0, 0⟩).w.toNat) = Bh i then upd (manyIn ks i Bh M l) i (manyIn ks i Bh M l i + manyIn ks i Bh M l (i + (ks.getD k ⟨0, 0, 0⟩).w.toNat)) else manyIn ks i Bh M l := by
  induction l generalizing M with
  | nil => rfl
  | cons a l ih => exact ih _
def manyAt (L : Nat) (F : Nat → Int) (ks : List Kd) (Bh : Nat → Int) : Nat → Nat → Int
  | 0 => upd (fun _ => 0) L 1
  | k + 1 => manyIn ks (L - 1 - k) Bh (if Bh (L - 1 - k) = Bh (L - 1 - k + 1) then upd (manyAt L F ks Bh k) (L - 1 - k) (manyAt L F ks Bh k (L - 1 - k + 1)) else manyAt L F ks Bh k) ((List.range ks.length).filter (canI L F ks (L - 1 - k)))

/-- What holds of the counts when those of the places from L - k on are known. -/
structure ManyOk (L k : Nat) (M : Nat → Int) : Prop where
  lo : ∀ j, 0 ≤ M j
  hi : ∀ j, j ≤ L → L ≤ j + k → M j ≤ 6 ^ (L - j)
  no : ∀ j, j + k < L → M j = 0
theorem pow6_pos (n : Nat) : (1 : Int) ≤ 6 ^ n := by
  induction n with
  | zero => simp
  | succ n ih => rw [Int.pow_succ]; omega
theorem pow6_mono {a b : Nat} (h : a ≤ b) : (6 : Int) ^ a ≤ 6 ^ b := by
  obtain ⟨d, rfl⟩ := Nat.exists_eq_add_of_le h
  induction d with
  | zero => simp
  | succ d ih =>
    have := ih (by omega)
    rw [← Nat.add_assoc, Int.pow_succ]
    have h2 := pow6_pos (a + d)
    omega

/-- While the sheets at place i are looked at: t of them have been counted, and waste, or not. -/
structure ManyIn (L i t : Nat) (ws : Bool) (M : Nat → Int) : Prop where
  lo : ∀ j, 0 ≤ M j
  hi : ∀ j, i < j → j ≤ L → M j ≤ 6 ^ (L - j)
  at_ : if ws then M i ≤ 6 ^ (L - i - 1) + t * 6 ^ (L - i - 2) ∧ (t = 0 ∨ i + 2 ≤ L) else M i ≤ t * 6 ^ (L - i - 1)
  no : ∀ j, j < i → M j = 0
theorem ManyIn.final {L i t : Nat} {ws : Bool} {M : Nat → Int} (h : ManyIn L i t ws M) (ht : t ≤ 6) (hi : i < L) : M i ≤ 6 ^ (L - i) := by
  have h1 := h.at_
  have e1 : L - i = (L - i - 1) + 1 := by omega
  have p1 := pow6_pos (L - i - 1)
  cases ws with
  | false =>
    simp only [Bool.false_eq_true, if_false] at h1
    rw [e1, Int.pow_succ]
    have : (t : Int) * 6 ^ (L - i - 1) ≤ 6 * 6 ^ (L - i - 1) := Int.mul_le_mul_of_nonneg_right (by omega) (by omega)
    omega
  | true =>
    simp only [if_true] at h1
    rcases h1 with ⟨h1, h2 | h2⟩
    · subst h2
      rw [e1, Int.pow_succ]
      simp at h1
      omega
    · have e2 : L - i - 1 = (L - i - 2) + 1 := by omega
      have p2 := pow6_pos (L - i - 2)
      rw [e1, Int.pow_succ]
      have h3 : (t : Int) * 6 ^ (L - i - 2) ≤ 6 * 6 ^ (L - i - 2) := Int.mul_le_mul_of_nonneg_right (by omega) (by omega)
      have h4 : (6 : Int) ^ (L - i - 1) = 6 ^ (L - i - 2) * 6 := by rw [e2, Int.pow_succ]
      omega
theorem ManyIn.step {L i t : Nat} {ws : Bool} {M Bh : Nat → Int} (h : ManyIn L i t ws M) (hws : ws = decide (Bh i = Bh (i + 1))) {wd : Nat} {p : Int} (hw : 1 ≤ wd) (hp : 1 ≤ p) (hl : i + wd ≤ L) (htie : p + Bh (i + wd) = Bh i) :
    ManyIn L i (t + 1) ws (upd M i (M i + M (i + wd))) := by
  have h1 := h.at_
  have hlo := h.lo i
  have hlo2 := h.lo (i + wd)
  have hhi := h.hi (i + wd) (by omega) hl
  refine ⟨fun j => ?_, fun j hj hjL => ?_, ?_, fun j hj => ?_⟩
  · unfold upd; split
    · omega
    · exact h.lo j
  · unfold upd; rw [if_neg (by omega)]; exact h.hi j hj hjL
  · have hu : upd M i (M i + M (i + wd)) i = M i + M (i + wd) := by simp [upd]
    rw [hu]
    cases ws with
    | false =>
      simp only [Bool.false_eq_true, if_false] at h1 ⊢
      have hm := pow6_mono (show L - (i + wd) ≤ L - i - 1 from by omega)
      have : ((t + 1 : Nat) : Int) * 6 ^ (L - i - 1) = t * 6 ^ (L - i - 1) + 6 ^ (L - i - 1) := by push_cast; rw [Int.add_mul]; omega
      omega
    | true =>
      simp only [if_true] at h1 ⊢
      have hbe : Bh i = Bh (i + 1) := by simpa using hws.symm
      have hw2 : wd ≠ 1 := by rintro rfl; omega
      have hm := pow6_mono (show L - (i + wd) ≤ L - i - 2 from by omega)
      have : ((t + 1 : Nat) : Int) * 6 ^ (L - i - 2) = t * 6 ^ (L - i - 2) + 6 ^ (L - i - 2) := by push_cast; rw [Int.add_mul]; omega
      exact ⟨by omega, .inr (by omega)⟩
  · unfold upd; rw [if_neg (by omega)]; exact h.no j hj

/-- No more than t sheets have been counted. -/
def ManyLe (L i t : Nat) (ws : Bool) (M : Nat → Int) : Prop := ∃ t', t' ≤ t ∧ ManyIn L i t' ws M
theorem manyAt_step {L i : Nat} {F : Nat → Int} {ks : List Kd} (hk : KOk ks) {Bh : Nat → Int} {ws : Bool} (hws : ws = decide (Bh i = Bh (i + 1))) : ∀ (l : List Nat) {M : Nat → Int} {t : Nat}, ManyLe L i t ws M → (∀ k ∈ l, canI L F ks i k = true) → ManyLe L i (t + l.length) ws (manyIn ks i Bh M l) := by
  intro l
  induction l with
  | nil => exact fun h _ => h
  | cons k l ih =>
    intro M t h hl
    have hc := hl k (by simp)
    unfold canI at hc
    cases hx : ks[k]? with
    | none => rw [hx] at hc; cases hc
    | some x =>
      rw [hx] at hc
      have hbd := hk.bd hx
      have hle := (canB_iff.1 hc).1
      obtain ⟨wd, hwd⟩ : ∃ wd : Nat, x.w = wd := ⟨x.w.toNat, by omega⟩
      have hg : ks.getD k ⟨0, 0, 0⟩ = x := by simp [List.getD, hx]
      simp only [manyIn, hg, hwd, Int.toNat_natCast]
      have hlen : t + (k :: l).length = (t + 1) + l.length := by simp; omega
      rw [hlen]
      refine ih ?_ (fun j hj => hl j (by simp [hj]))
      obtain ⟨t', ht', hm⟩ := h
      split
      · rename_i htie
        exact ⟨t' + 1, by omega, hm.step hws (by omega) (by omega) (by omega) htie⟩
      · exact ⟨t', by omega, hm⟩
theorem manyAt_start {L k : Nat} (hk : k < L) {M Bh : Nat → Int} (h : ManyOk L k M) : ManyIn L (L - 1 - k) 0 (decide (Bh (L - 1 - k) = Bh (L - 1 - k + 1))) (if Bh (L - 1 - k) = Bh (L - 1 - k + 1) then upd M (L - 1 - k) (M (L - 1 - k + 1)) else M) := by
  by_cases hc : Bh (L - 1 - k) = Bh (L - 1 - k + 1)
  · rw [if_pos hc, decide_eq_true hc]
    have h1 := h.lo (L - 1 - k + 1)
    have h2 := h.hi (L - 1 - k + 1) (by omega) (by omega)
    refine ⟨fun j => ?_, fun j hj hjL => ?_, ?_, fun j hj => ?_⟩
    · unfold upd; split
      · omega
      · exact h.lo j
    · unfold upd; rw [if_neg (by omega)]; exact h.hi j hjL (by omega)
    · simp only [upd, if_true]
      refine ⟨?_, .inl trivial⟩
      rw [show L - (L - 1 - k + 1) = L - (L - 1 - k) - 1 from by omega] at h2
      simpa using h2
    · unfold upd; rw [if_neg (by omega)]; exact h.no j (by omega)
  · rw [if_neg hc, decide_eq_false hc]
    refine ⟨h.lo, fun j hj hjL => h.hi j hjL (by omega), ?_, fun j hj => h.no j (by omega)⟩
    simp only [Bool.false_eq_true, if_false]
    rw [h.no (L - 1 - k) (by omega)]
    simp
theorem manyAt_ok {L : Nat} {F : Nat → Int} {ks : List Kd} (hk : KOk ks) (Bh : Nat → Int) (k : Nat) (hkL : k ≤ L) : ManyOk L k (manyAt L F ks Bh k) := by
  induction k with
  | zero =>
    refine ⟨fun j => ?_, fun j hj hj2 => ?_, fun j hj => ?_⟩
    · simp only [manyAt, upd]; split <;> omega
    · have : j = L := by omega
      subst this; simp [manyAt, upd]
    · simp only [manyAt, upd]; rw [if_neg (by omega)]
  | succ k ih =>
    have ih := ih (by omega)
    have hs := manyAt_start (Bh := Bh) (by omega) ih
    have hm := manyAt_step (F := F) hk (Bh := Bh) rfl ((List.range ks.length).filter (canI L F ks (L - 1 - k))) ⟨0, Nat.le_refl _, hs⟩ (fun j hj => by simpa using (List.mem_filter.1 hj).2)
    obtain ⟨t, ht, hm⟩ := hm
    have ht6 : t ≤ 6 := by
      have := List.length_filter_le (canI L F ks (L - 1 - k)) (List.range ks.length)
      simp only [List.length_range] at this
      have := hk.2.1
      omega
    have hf := hm.final ht6 (by omega)
    unfold manyAt
    refine ⟨hm.lo, fun j hj hj2 => ?_, fun j hj => hm.no j (by omega)⟩
    by_cases e : j = L - 1 - k
    · subst e; exact hf
    · exact hm.hi j (by omega) hj
/-- No count of those that the loops make is beyond 6 to the power of 24. -/
theorem ManyIn.big {L i t : Nat} {ws : Bool} {M : Nat → Int} (h : ManyIn L i t ws M) (ht : t ≤ 6) (hi : i < L) (hL : L ≤ 24) (j : Nat) (hj : j ≤ L) : 0 ≤ M j ∧ M j ≤ 4738381338321616896 := by
  refine ⟨h.lo j, ?_⟩
  have h24 : (6 : Int) ^ 24 = 4738381338321616896 := by decide
  have hm := pow6_mono (show L - j ≤ 24 from by omega)
  rw [h24] at hm
  by_cases e : j = i
  · subst e; have := h.final ht hi; omega
  · by_cases e2 : i < j
    · have := h.hi j e2 hj; omega
    · have := h.no j (by omega); omega
theorem ManyOk.big {L k : Nat} {M : Nat → Int} (h : ManyOk L k M) (hL : L ≤ 24) (j : Nat) (hj : j ≤ L) : 0 ≤ M j ∧ M j ≤ 4738381338321616896 := by
  refine ⟨h.lo j, ?_⟩
  have h24 : (6 : Int) ^ 24 = 4738381338321616896 := by decide
  have hm := pow6_mono (show L - j ≤ 24 from by omega)
  rw [h24] at hm
  by_cases e : L ≤ j + k
  · have := h.hi j hj e; omega
  · have := h.no j (by omega); omega
end Go.Proofs.Ytjmphmnimnbgkaa
