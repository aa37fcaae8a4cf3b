/- Plain law of chapter 3: the document's list of least loads is the number of greedy loads up to each hour. No program. -/
import Derived.Test.YtbbdlebmagknmaaFill
namespace Go.Proofs.Ytbbdlebmagknmaa.Fill

section
variable {α : Type} (lo hi : α → Int)
/-- What a window needs. -/
def needW (L : Nat) (all : List α) (a b : Int) : Int := ((all.countP (fun x => decide (a ≤ lo x) && decide (hi x ≤ b)) : Nat) + (L : Int) - 1) / L
/-- The windows from the beginning of a log to the end of one. -/
def windowsP (all : List α) : List (Int × Int) := all.flatMap fun a => (all.filter fun b => decide (lo a ≤ hi b)).map fun b => (lo a, hi b)
/-- One hour more. -/
def leastStep (L : Nat) (all : List α) (ws : List (Int × Int)) (A : Nat → Int) (h : Nat) (m : Int) : Int :=
  ws.foldl (fun m w => if w.2 = (h : Int) then max m (A w.1.toNat + needW lo hi L all w.1 w.2) else m) m
def leastAt (L : Nat) (all : List α) : Nat → Nat → Int
  | 0 => fun _ => 0
  | n + 1 => fun j => if j = n + 1 then leastStep lo hi L all (windowsP lo hi all) (leastAt L all n) n (leastAt L all n n) else leastAt L all n j
theorem need_count (L : Nat) (hL : 1 ≤ L) (all : List α) (a b : Int) (n : Nat) (h : (n - 1) * L + 1 ≤ all.countP (inW lo hi (a - 1) b)) : (n : Int) ≤ needW lo hi L all a b := by
  have e : all.countP (inW lo hi (a - 1) b) = all.countP (fun x => decide (a ≤ lo x) && decide (hi x ≤ b)) := by
    congr 1
    funext x
    unfold inW
    congr 1
    exact decide_eq_decide.2 (by omega)
  rw [e] at h
  unfold needW
  generalize all.countP (fun x => decide (a ≤ lo x) && decide (hi x ≤ b)) = c at h
  apply Int.le_ediv_of_mul_le (by omega)
  cases n with
  | zero => omega
  | succ n =>
    rw [Nat.add_sub_cancel] at h
    have : ((n * L + 1 : Nat) : Int) ≤ (c : Int) := by exact_mod_cast h
    rw [Int.natCast_add, Int.natCast_mul] at this
    rw [Int.natCast_add, Int.add_mul]
    omega
theorem count_need (L : Nat) (hL : 1 ≤ L) (all : List α) (a b : Int) : 0 ≤ needW lo hi L all a b ∧ (1 ≤ all.countP (inW lo hi (a - 1) b) → ((needW lo hi L all a b).toNat - 1) * L + 1 ≤ all.countP (inW lo hi (a - 1) b)) := by
  have e : all.countP (inW lo hi (a - 1) b) = all.countP (fun x => decide (a ≤ lo x) && decide (hi x ≤ b)) := by
    congr 1
    funext x
    unfold inW
    congr 1
    exact decide_eq_decide.2 (by omega)
  rw [e]
  unfold needW
  generalize all.countP (fun x => decide (a ≤ lo x) && decide (hi x ≤ b)) = c
  have h0 : 0 ≤ ((c : Int) + (L : Int) - 1) / L := Int.ediv_nonneg (by omega) (by omega)
  refine ⟨h0, fun h1 => ?_⟩
  obtain ⟨q, hq⟩ : ∃ q : Nat, ((c : Int) + (L : Int) - 1) / L = q := ⟨(((c : Int) + (L : Int) - 1) / L).toNat, by omega⟩
  rw [hq, Int.toNat_natCast]
  have h2 : (q : Int) * L ≤ (c : Int) + L - 1 := by
    rw [← hq]
    exact Int.ediv_mul_le _ (by omega)
  cases q with
  | zero => omega
  | succ q =>
    rw [Nat.add_sub_cancel]
    rw [Int.natCast_add, Int.add_mul] at h2
    have h3 : ((q * L : Nat) : Int) = (q : Int) * L := Int.natCast_mul q L
    omega
theorem step_le (L : Nat) (all : List α) (A : Nat → Int) (h : Nat) : ∀ (ws : List (Int × Int)) (m : Int), m ≤ leastStep lo hi L all ws A h m ∧ ∀ w ∈ ws, w.2 = (h : Int) → A w.1.toNat + needW lo hi L all w.1 w.2 ≤ leastStep lo hi L all ws A h m
  | [], m => ⟨Int.le_refl _, by simp⟩
  | w :: ws, m => by
    obtain ⟨h1, h2⟩ := step_le L all A h ws (if w.2 = (h : Int) then max m (A w.1.toNat + needW lo hi L all w.1 w.2) else m)
    have e : leastStep lo hi L all (w :: ws) A h m = leastStep lo hi L all ws A h (if w.2 = (h : Int) then max m (A w.1.toNat + needW lo hi L all w.1 w.2) else m) := rfl
    rw [e]
    refine ⟨Int.le_trans ?_ h1, fun u hu hue => ?_⟩
    · split <;> omega
    · rcases List.mem_cons.1 hu with rfl | hu
      · refine Int.le_trans ?_ h1
        rw [if_pos hue]
        omega
      · exact h2 u hu hue
theorem step_or (L : Nat) (all : List α) (A : Nat → Int) (h : Nat) : ∀ (ws : List (Int × Int)) (m : Int), leastStep lo hi L all ws A h m = m ∨ ∃ w ∈ ws, w.2 = (h : Int) ∧ leastStep lo hi L all ws A h m = A w.1.toNat + needW lo hi L all w.1 w.2
  | [], m => .inl rfl
  | w :: ws, m => by
    have e : leastStep lo hi L all (w :: ws) A h m = leastStep lo hi L all ws A h (if w.2 = (h : Int) then max m (A w.1.toNat + needW lo hi L all w.1 w.2) else m) := rfl
    rw [e]
    rcases step_or L all A h ws (if w.2 = (h : Int) then max m (A w.1.toNat + needW lo hi L all w.1 w.2) else m) with h1 | ⟨u, hu, h2, h3⟩
    · rw [h1]
      split
      · rename_i hw
        by_cases hm : A w.1.toNat + needW lo hi L all w.1 w.2 ≤ m
        · left; omega
        · right; exact ⟨w, by simp, hw, by omega⟩
      · exact .inl rfl
    · exact .inr ⟨u, by simp [hu], h2, h3⟩
/-- **The document's least loads are the greedy ones.** -/
theorem least_fill (L : Nat) (hL : 1 ≤ L) (all l : List α) (hpos : ∀ x ∈ all, 0 ≤ lo x) (hlh : ∀ x ∈ all, lo x ≤ hi x) (hs : l.Pairwise (fun a b => hi a ≤ hi b)) (hall : ∀ x ∈ l, x ∈ all) (hc : ∀ p, l.countP p = all.countP p) (f : Nat) (hf : l.length ≤ f) :
    ∀ n j, j ≤ n → leastAt lo hi L all n j = ((fillL lo hi L f l).countP (fun t => decide (t ≤ (j : Int) - 1)) : Nat) := by
  have hmax := fill_max lo hi L hL all l hlh hs hall hc f hf
  intro n
  induction n with
  | zero =>
    intro j hj
    obtain rfl : j = 0 := by omega
    have : (fillL lo hi L f l).countP (fun t => decide (t ≤ ((0 : Nat) : Int) - 1)) = 0 := List.countP_eq_zero.2 fun t ht => by
      obtain ⟨x, hx, rfl⟩ := fillL_mem lo hi L f l t ht
      have := hpos x (hall x hx)
      have := hlh x (hall x hx)
      simp
      omega
    rw [this]
    rfl
  | succ n ih =>
    intro j hj
    unfold leastAt
    by_cases e : j = n + 1
    · rw [if_pos e]
      subst e
      obtain ⟨c1, c2⟩ := hmax (n : Int)
      rw [show (((n + 1 : Nat) : Int) - 1) = (n : Int) by omega]
      generalize hg : (fillL lo hi L f l).countP (fun t => decide (t ≤ (n : Int))) = g at c1 c2
      obtain ⟨s1, s2⟩ := step_le lo hi L all (leastAt lo hi L all n) n (windowsP lo hi all) (leastAt lo hi L all n n)
      have hn := ih n (Nat.le_refl _)
      obtain ⟨d1, d2⟩ := hmax ((n : Int) - 1)
      have hA : ∀ x ∈ all, lo x ≤ (n : Int) → leastAt lo hi L all n (lo x).toNat = ((fillL lo hi L f l).countP (fun t => decide (t ≤ lo x - 1)) : Nat) := fun x hx hxn => by
        have h0 := hpos x hx
        rw [ih (lo x).toNat (by omega)]
        rw [show (((lo x).toNat : Nat) : Int) = lo x by omega]
      apply Int.le_antisymm
      · rcases step_or lo hi L all (leastAt lo hi L all n) n (windowsP lo hi all) (leastAt lo hi L all n n) with h1 | ⟨w, hw, h1, h2⟩
        · rw [h1, hn]
          have := c2 _ (d1.mono lo hi (by omega))
          omega
        · unfold windowsP at hw
          obtain ⟨x, hx, hw⟩ := List.mem_flatMap.1 hw
          obtain ⟨y, hy, rfl⟩ := List.mem_map.1 hw
          obtain ⟨hy1, hy2⟩ := List.mem_filter.1 hy
          simp only [decide_eq_true_eq] at hy2
          simp only at h1 h2
          rw [h2, hA x hx (by omega)]
          obtain ⟨e1, _⟩ := hmax (lo x - 1)
          obtain ⟨n0, n1⟩ := count_need lo hi L hL all (lo x) (hi y)
          by_cases hcn : 1 ≤ all.countP (inW lo hi (lo x - 1) (hi y))
          · have := c2 _ (Chain.cons (n : Int) _ (needW lo hi L all (lo x) (hi y)).toNat x y hx hy1 hy2 (by omega) e1 (n1 hcn))
            omega
          · have hz : needW lo hi L all (lo x) (hi y) = 0 := by
              have e : all.countP (inW lo hi (lo x - 1) (hi y)) = all.countP (fun z => decide (lo x ≤ lo z) && decide (hi z ≤ hi y)) := by
                congr 1
                funext z
                unfold inW
                congr 1
                exact decide_eq_decide.2 (by omega)
              rw [e] at hcn
              unfold needW
              rw [show all.countP (fun z => decide (lo x ≤ lo z) && decide (hi z ≤ hi y)) = 0 by omega]
              exact Int.ediv_eq_zero_of_lt (by omega) (by omega)
            have := c2 _ (e1.mono lo hi (show lo x - 1 ≤ (n : Int) by omega))
            omega
      · cases c1 with
        | nil => exact Int.le_trans (by rw [hn]; omega) s1
        | cons _ v k x y hx hy h1 h2 h3 h4 =>
          by_cases hyn : hi y = (n : Int)
          · have hm : ((lo x, hi y) : Int × Int) ∈ windowsP lo hi all := List.mem_flatMap.2 ⟨x, hx, List.mem_map.2 ⟨y, List.mem_filter.2 ⟨hy, by simpa using h1⟩, rfl⟩⟩
            have h5 := s2 _ hm hyn
            simp only at h5
            rw [hA x hx (by omega)] at h5
            have h6 := (hmax (lo x - 1)).2 _ h3
            have h7 := need_count lo hi L hL all (lo x) (hi y) k h4
            omega
          · have h5 := d2 _ (Chain.cons ((n : Int) - 1) v k x y hx hy h1 (by omega) h3 h4)
            omega
    · rw [if_neg e]
      exact ih j (by omega)
end
end Go.Proofs.Ytbbdlebmagknmaa.Fill
