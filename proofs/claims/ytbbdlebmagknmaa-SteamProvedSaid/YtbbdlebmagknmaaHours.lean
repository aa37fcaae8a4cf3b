/- Plain law of chapter 3: right hours have at least as many loads as a chain of windows needs. No program. -/
import Derived.Test.YtbbdlebmagknmaaFill
namespace Go.Proofs.Ytbbdlebmagknmaa.Fill

theorem nsum_le (f g : Nat → Nat) : ∀ l : List Nat, (∀ t ∈ l, f t ≤ g t) → (l.map f).sum ≤ (l.map g).sum
  | [], _ => Nat.le_refl _
  | t :: l, h => by
    have := nsum_le f g l (fun u hu => h u (by simp [hu]))
    have := h t (by simp)
    simp only [List.map_cons, List.sum_cons]
    omega
theorem nsum_add (f g : Nat → Nat) : ∀ l : List Nat, (l.map fun t => f t + g t).sum = (l.map f).sum + (l.map g).sum
  | [] => rfl
  | t :: l => by
    have := nsum_add f g l
    simp only [List.map_cons, List.sum_cons]
    omega
theorem nsum_mul (f : Nat → Nat) (c : Nat) : ∀ l : List Nat, (l.map fun t => f t * c).sum = (l.map f).sum * c
  | [] => by simp
  | t :: l => by
    have := nsum_mul f c l
    simp only [List.map_cons, List.sum_cons, Nat.add_mul]
    omega
theorem nsum_one (f : Nat → Nat) : ∀ (l : List Nat) (t : Nat), t ∈ l → f t ≤ (l.map f).sum
  | [], t, h => by simp at h
  | u :: l, t, h => by
    simp only [List.map_cons, List.sum_cons]
    rcases List.mem_cons.1 h with rfl | h
    · omega
    · have := nsum_one f l t h; omega
/-- A number divided by another one, rounded up. -/
def upN (n L : Nat) : Nat := (n + L - 1) / L
theorem upN_room (n L : Nat) (hL : 1 ≤ L) : n ≤ upN n L * L := by
  unfold upN
  have h1 := Nat.div_add_mod (n + L - 1) L
  have h2 := Nat.mod_lt (n + L - 1) hL
  rw [Nat.mul_comm] at h1
  omega
/-- The loads of hours. -/
def loadsN (L : Nat) (hs : List Int) : Nat := ((List.range 101).map fun t : Nat => upN (hs.countP fun h => decide (h = (t : Int))) L).sum
def upTo (L : Nat) (hs : List Int) (h : Int) : Nat := ((List.range 101).map fun t : Nat => if (t : Int) ≤ h then upN (hs.countP fun h => decide (h = (t : Int))) L else 0).sum
theorem count_hours (q : Int → Bool) : ∀ (hs : List Int), (∀ h ∈ hs, 0 ≤ h ∧ h ≤ 100) → hs.countP q ≤ ((List.range 101).map fun t : Nat => if q (t : Int) then hs.countP (fun h => decide (h = (t : Int))) else 0).sum
  | [], _ => by simp
  | h :: hs, hb => by
    have ih := count_hours q hs (fun u hu => hb u (by simp [hu]))
    have h0 := hb h (by simp)
    have e : ((List.range 101).map fun t : Nat => if q (t : Int) then (h :: hs).countP (fun h => decide (h = (t : Int))) else 0).sum = ((List.range 101).map fun t : Nat => if q (t : Int) then hs.countP (fun h => decide (h = (t : Int))) else 0).sum + ((List.range 101).map fun t : Nat => if q (t : Int) then (if h = (t : Int) then 1 else 0) else 0).sum := by
      rw [← nsum_add]
      congr 1
      apply List.map_congr_left
      intro t _
      rw [List.countP_cons]
      by_cases hq : q (t : Int) = true
      · simp [hq]
      · simp [hq]
    rw [e, List.countP_cons]
    by_cases hq : q h = true
    · have h1 := nsum_one (fun t : Nat => if q (t : Int) then (if h = (t : Int) then 1 else 0) else 0) (List.range 101) h.toNat (List.mem_range.2 (by omega))
      have e2 : ((h.toNat : Nat) : Int) = h := by omega
      simp only [e2, hq, if_true] at h1
      rw [if_pos hq]
      omega
    · rw [if_neg hq]
      omega
section
variable {α : Type} (lo hi : α → Int)
/-- **Right hours have at least as many loads as a chain of windows needs.** -/
theorem hours_chain (L : Nat) (hL : 1 ≤ L) (all : List α) (ps : List (α × Int)) (hr : ∀ p ∈ ps, (lo p.1 ≤ p.2 ∧ p.2 ≤ hi p.1) ∧ 0 ≤ p.2 ∧ p.2 ≤ 100) (hc : ∀ q : α → Bool, all.countP q = ps.countP fun p => q p.1) {h : Int} {v : Nat} (c : Chain lo hi L all h v) : v ≤ loadsN L (ps.map (·.2)) := by
  obtain ⟨hs, hhs⟩ : ∃ hs, ps.map (·.2) = hs := ⟨_, rfl⟩
  have hb : ∀ t ∈ hs, 0 ≤ t ∧ t ≤ 100 := fun t ht => by
    rw [← hhs] at ht
    obtain ⟨p, hp, rfl⟩ := List.mem_map.1 ht
    exact (hr p hp).2
  rw [hhs]
  have h1 : v ≤ upTo L hs h := by
    refine c.le lo hi (upTo L hs) (fun T b hTb => nsum_le _ _ _ fun t _ => ?_) (fun T b hTb => ?_)
    · show (if (t : Int) ≤ T then _ else 0) ≤ (if (t : Int) ≤ b then _ else 0)
      by_cases c1 : (t : Int) ≤ T
      · rw [if_pos c1, if_pos (by omega)]; exact Nat.le_refl _
      · rw [if_neg c1]; exact Nat.zero_le _
    · have e1 : upTo L hs b = upTo L hs T + ((List.range 101).map fun t : Nat => if (decide (T < (t : Int)) && decide ((t : Int) ≤ b)) then upN (hs.countP fun h => decide (h = (t : Int))) L else 0).sum := by
        unfold upTo
        rw [← nsum_add]
        congr 1
        apply List.map_congr_left
        intro t _
        by_cases c1 : (t : Int) ≤ T
        · simp [c1, show (t : Int) ≤ b by omega, show ¬ T < (t : Int) by omega]
        · by_cases c2 : (t : Int) ≤ b
          · simp [c1, c2, show T < (t : Int) by omega]
          · simp [c1, c2]
      rw [e1, Nat.add_sub_cancel_left, ← nsum_mul, hc]
      have e2 : ps.countP (fun p => inW lo hi T b p.1) ≤ hs.countP (fun t => decide (T < t) && decide (t ≤ b)) := by
        rw [← hhs, countP_map_le]
        refine List.countP_mono_left fun p hp hq => ?_
        obtain ⟨q1, q2⟩ := (inW_iff lo hi).1 hq
        have := (hr p hp).1
        simp only [Bool.and_eq_true, decide_eq_true_eq]
        omega
      refine Nat.le_trans e2 (Nat.le_trans (count_hours _ hs hb) (nsum_le _ _ _ fun t _ => ?_))
      split
      · exact upN_room _ L hL
      · exact Nat.zero_le _
  refine Nat.le_trans h1 (nsum_le _ _ _ fun t _ => ?_)
  split
  · exact Nat.le_refl _
  · exact Nat.zero_le _
theorem nsum_ind (h : Int) : ∀ l : List Nat, l.Nodup → (l.map fun t : Nat => if h = (t : Int) then 1 else 0).sum ≤ 1
  | [], _ => by simp
  | t :: l, hn => by
    obtain ⟨h1, h2⟩ := List.pairwise_cons.1 hn
    have ih := nsum_ind h l h2
    simp only [List.map_cons, List.sum_cons]
    by_cases e : h = (t : Int)
    · have hz : (l.map fun t : Nat => if h = (t : Int) then 1 else 0).sum = 0 := by
        clear ih h2 hn
        induction l with
        | nil => rfl
        | cons u l ih =>
          have hu := h1 u (by simp)
          simp only [List.map_cons, List.sum_cons]
          rw [if_neg (by omega), ih (fun v hv => h1 v (by simp [hv]))]
      rw [if_pos e, hz]
      omega
    · rw [if_neg e]
      omega
theorem count_all_le : ∀ hs : List Int, ((List.range 101).map fun t : Nat => hs.countP (fun h => decide (h = (t : Int)))).sum ≤ hs.length
  | [] => by
    have h := nsum_mul (fun _ => 1) 0 (List.range 101)
    rw [Nat.mul_zero] at h
    simp only [List.countP_nil, List.length_nil]
    exact Nat.le_of_eq h
  | h :: hs => by
    have ih := count_all_le hs
    have e : ((List.range 101).map fun t : Nat => (h :: hs).countP (fun h => decide (h = (t : Int)))).sum = ((List.range 101).map fun t : Nat => hs.countP (fun h => decide (h = (t : Int)))).sum + ((List.range 101).map fun t : Nat => if h = (t : Int) then 1 else 0).sum := by
      rw [← nsum_add]
      congr 1
      apply List.map_congr_left
      intro t _
      rw [List.countP_cons]
      simp
    have := nsum_ind h (List.range 101) List.nodup_range
    rw [e, List.length_cons]
    omega
/-- **The greedy hours have as many loads as the greedy filling.** -/
theorem fill_loads (L : Nat) (hL : 1 ≤ L) (all l : List α) (hb : ∀ x ∈ all, 0 ≤ lo x ∧ lo x ≤ hi x ∧ hi x ≤ 100) (hs : l.Pairwise (fun a b => hi a ≤ hi b)) (hall : ∀ x ∈ l, x ∈ all) (hc : ∀ p, l.countP p = all.countP p) (f : Nat) (hf : l.length ≤ f) :
    loadsN L ((fillA lo hi L f l).map (·.2)) = (fillL lo hi L f l).length := by
  have hlh : ∀ x ∈ all, lo x ≤ hi x := fun x hx => (hb x hx).2.1
  have hA : ∀ p ∈ fillA lo hi L f l, p.1 ∈ l := by
    clear hs hc hf hlh hb hall
    induction f generalizing l with
    | zero => intro p hp; simp [fillA] at hp
    | succ f ih =>
      cases l with
      | nil => intro p hp; simp [fillA] at hp
      | cons x l =>
        intro p hp
        unfold fillA at hp
        rcases List.mem_append.1 hp with hp | hp
        · obtain ⟨y, hy, rfl⟩ := List.mem_map.1 hp
          exact (takeL_sub1 lo (hi x) (x :: l) L).subset hy
        · exact (takeL_sub lo (hi x) (x :: l) L).subset (ih _ p hp)
  apply Nat.le_antisymm
  · refine Nat.le_trans (nsum_le _ (fun t => (fillL lo hi L f l).countP fun h => decide (h = (t : Int))) _ fun t _ => ?_) (count_all_le _)
    have h1 := fillA_room lo hi L (fun h => decide (h = (t : Int))) f l
    rw [countP_map_le]
    unfold upN
    generalize (fillL lo hi L f l).countP (fun h => decide (h = (t : Int))) = k at h1
    generalize (fillA lo hi L f l).countP (fun a => decide (a.2 = (t : Int))) = n at h1
    have : n + L - 1 < (k + 1) * L := by rw [Nat.add_mul, Nat.one_mul]; omega
    exact Nat.le_of_lt_succ ((Nat.div_lt_iff_lt_mul (by omega)).2 this)
  · have hm := (fill_max lo hi L hL all l hlh hs hall hc f hf 100).1
    have hall100 : (fillL lo hi L f l).countP (fun t => decide (t ≤ 100)) = (fillL lo hi L f l).length := List.countP_eq_length.2 fun t ht => by
      obtain ⟨x, hx, rfl⟩ := fillL_mem lo hi L f l t ht
      have := (hb x (hall x hx)).2.2
      simpa using this
    rw [hall100] at hm
    refine hours_chain lo hi L hL all (fillA lo hi L f l) (fun p hp => ?_) (fun q => ?_) hm
    · have h1 := fillA_right lo hi L f l hs p hp
      have h2 := hb p.1 (hall p.1 (hA p hp))
      omega
    · rw [fillA_all lo hi L hL q f l hf (fun x hx => hlh x (hall x hx)), hc]
end
end Go.Proofs.Ytbbdlebmagknmaa.Fill
