/- Plain law of chapter 9, second part: any right fill spends at least what must be spent, no proof proves more than a right fill costs, and what one more sheet of each grade is worth proves the least cost. No program. -/
import Derived.Test.YtmfiggbobaihcaaGPlan
namespace Go.Proofs.Ytmfiggbobaihcaa.Gr9

theorem pre_const (c : Int) : ∀ n : Nat, pre (fun _ => c) n = c * n
  | 0 => by simp [pre]
  | n + 1 => by
    have h := pre_const c n
    show pre (fun _ => c) n + c = c * ((n + 1 : Nat) : Int)
    rw [h, Int.natCast_add, Int.mul_add]
    simp
theorem pre_mul (c : Int) (f : Nat → Int) : ∀ n : Nat, pre (fun i => c * f i) n = c * pre f n
  | 0 => by simp [pre]
  | n + 1 => by
    show pre (fun i => c * f i) n + c * f n = c * (pre f n + f n)
    rw [pre_mul c f n, Int.mul_add]
theorem pre_zero : ∀ n : Nat, pre (fun _ => 0) n = 0
  | 0 => rfl
  | n + 1 => by show pre (fun _ => 0) n + 0 = 0; rw [pre_zero n]; rfl
theorem pre_comm (h : Nat → Nat → Int) (m : Nat) : ∀ n : Nat, pre (fun i => pre (fun j => h i j) m) n = pre (fun j => pre (fun i => h i j) n) m
  | 0 => (pre_zero m).symm
  | n + 1 => by
    show pre (fun i => pre (fun j => h i j) m) n + pre (fun j => h n j) m = _
    rw [pre_comm h m n, ← pre_add]
    rfl
theorem pre_nonneg' {f : Nat → Int} : ∀ n : Nat, (∀ i, i < n → 0 ≤ f i) → 0 ≤ pre f n
  | 0, _ => Int.le_refl _
  | n + 1, h => by
    have h1 := pre_nonneg' n fun i hi => h i (by omega)
    have h2 := h n (by omega)
    unfold pre
    omega
/-- A sum that begins later. -/
theorem pre_from (S : Nat → Int) {j m : Nat} (hjm : j ≤ m) : ∀ n : Nat, m < n → pre (fun g => if j < g ∧ g ≤ m then S g else 0) n = pre S (m + 1) - pre S (j + 1)
  | 0, h => by omega
  | n + 1, h => by
    show pre (fun g => if j < g ∧ g ≤ m then S g else 0) n + (if j < n ∧ n ≤ m then S n else 0) = _
    by_cases e : m < n
    · rw [pre_from S hjm n e, if_neg (by omega)]
      omega
    · obtain rfl : m = n := by omega
      have key : ∀ d, pre (fun g => if j < g ∧ g ≤ j + d then S g else 0) (j + d) + (if j < j + d ∧ j + d ≤ j + d then S (j + d) else 0) = pre S (j + d + 1) - pre S (j + 1) := by
        intro d
        induction d with
        | zero =>
          rw [if_neg (by omega)]
          have : pre (fun g => if j < g ∧ g ≤ j + 0 then S g else 0) (j + 0) = pre (fun _ => 0) (j + 0) := pre_congr _ fun i hi => if_neg (by omega)
          rw [this, pre_zero]
          show (0 : Int) + 0 = pre S (j + 1) - pre S (j + 1)
          omega
        | succ d ih =>
          have h1 : pre (fun g => if j < g ∧ g ≤ j + (d + 1) then S g else 0) (j + (d + 1)) = pre (fun g => if j < g ∧ g ≤ j + d then S g else 0) (j + d) + (if j < j + d ∧ j + d ≤ j + d then S (j + d) else 0) := by
            show pre (fun g => if j < g ∧ g ≤ j + (d + 1) then S g else 0) (j + d) + (if j < j + d ∧ j + d ≤ j + (d + 1) then S (j + d) else 0) = _
            congr 1
            · exact pre_congr _ fun i hi => by
                by_cases c : j < i
                · rw [if_pos ⟨c, by omega⟩, if_pos ⟨c, by omega⟩]
                · rw [if_neg (fun h => c h.1), if_neg (fun h => c h.1)]
            · by_cases c : j < j + d
              · rw [if_pos ⟨c, by omega⟩, if_pos ⟨c, by omega⟩]
              · rw [if_neg (fun h => c h.1), if_neg (fun h => c h.1)]
          rw [h1, ih, if_pos (by omega)]
          show pre S (j + d + 1) - pre S (j + 1) + S (j + (d + 1)) = pre S (j + d + 1) + S (j + (d + 1)) - pre S (j + 1)
          omega
      have := key (m - j)
      rwa [show j + (m - j) = m by omega] at this
/-! ### Prices -/
/-- How much a grade is dearer than the next one. -/
def dif (P : Nat → Int) (n j : Nat) : Int := P j - (if j + 1 < n then P (j + 1) else 0)
theorem dif_nonneg {P : Nat → Int} {n : Nat} (h0 : ∀ j, j < n → 0 ≤ P j) (hP : ∀ j, j + 1 < n → P (j + 1) ≤ P j) {j : Nat} (hj : j < n) : 0 ≤ dif P n j := by
  unfold dif
  split
  · rename_i h; have := hP j h; omega
  · have := h0 j hj; omega
/-- A price is the sum of the differences from it on. -/
theorem dif_sum (P : Nat → Int) (n : Nat) : ∀ k g : Nat, g + k = n → pre (fun j => if g ≤ j then dif P n j else 0) n = if g < n then P g else 0
  | 0, g, h => by
    obtain rfl : g = n := by omega
    rw [if_neg (by omega)]
    have : pre (fun j => if g ≤ j then dif P g j else 0) g = pre (fun _ => 0) g := pre_congr _ fun i hi => if_neg (by omega)
    rw [this, pre_zero]
  | k + 1, g, h => by
    have ih := dif_sum P n k (g + 1) (by omega)
    rw [if_pos (by omega)]
    have h1 : pre (fun j => if g ≤ j then dif P n j else 0) n = pre (fun j => if g + 1 ≤ j then dif P n j else 0) n + dif P n g := by
      have h2 : (fun j => if g ≤ j then dif P n j else 0) = upd (fun j => if g + 1 ≤ j then dif P n j else 0) g (dif P n g) := by
        funext j
        unfold upd
        by_cases e : j = g
        · subst e; rw [if_pos (Nat.le_refl _), if_pos rfl]
        · rw [if_neg e]
          show (if g ≤ j then dif P n j else 0) = if g + 1 ≤ j then dif P n j else 0
          by_cases c : g ≤ j
          · rw [if_pos c, if_pos (by omega)]
          · rw [if_neg c, if_neg (by omega)]
      rw [h2, pre_upd _ g _ n (by omega)]
      rw [if_neg (by omega)]
      omega
    rw [h1, ih]
    unfold dif
    split <;> omega
/-- What so many sheets of each grade cost. -/
def costF (P F : Nat → Int) (n : Nat) : Int := pre (fun g => P g * F g) n
/-- The cost, by sums up to each grade. -/
theorem cost_abel (P F : Nat → Int) (n : Nat) : costF P F n = pre (fun j => dif P n j * pre F (j + 1)) n := by
  have key : ∀ k : Nat, k ≤ n → pre (fun g => P g * F g) k = pre (fun j => dif P n j * pre F (j + 1)) k + (if k < n then P k else 0) * pre F k := by
    intro k
    induction k with
    | zero => intro _; simp [pre]
    | succ k ih =>
      intro hk
      have h1 := ih (by omega)
      show pre (fun g => P g * F g) k + P k * F k = pre (fun j => dif P n j * pre F (j + 1)) k + dif P n k * pre F (k + 1) + (if k + 1 < n then P (k + 1) else 0) * pre F (k + 1)
      rw [h1, if_pos (by omega)]
      have h2 : pre F (k + 1) = pre F k + F k := rfl
      have h3 : P k * pre F (k + 1) = P k * pre F k + P k * F k := by rw [h2, Int.mul_add]
      have h4 : dif P n k * pre F (k + 1) = P k * pre F (k + 1) - (if k + 1 < n then P (k + 1) else 0) * pre F (k + 1) := by unfold dif; rw [Int.sub_mul]
      rw [h4, h3]
      omega
  have h := key n (Nat.le_refl _)
  rw [if_neg (by omega), Int.zero_mul, Int.add_zero] at h
  exact h
theorem cost_le {P F G : Nat → Int} {n : Nat} (h0 : ∀ j, j < n → 0 ≤ P j) (hP : ∀ j, j + 1 < n → P (j + 1) ≤ P j) (h : ∀ g, g < n → pre F (g + 1) ≤ pre G (g + 1)) : costF P F n ≤ costF P G n := by
  rw [cost_abel, cost_abel]
  exact pre_le n fun j hj => Int.mul_le_mul_of_nonneg_left (h j hj) (dif_nonneg h0 hP hj)
/-! ### Any right fill -/
/-- A fill is right: orders' grades and numbers, the stock; m orders, n grades. -/
structure RightF (gr : Nat → Nat) (many S : Nat → Int) (m n : Nat) (f : Nat → Nat → Int) : Prop where
  nn : ∀ i, i < m → ∀ g, g < n → 0 ≤ f i g
  no : ∀ i, i < m → ∀ g, g < n → gr i < g → f i g = 0
  sum : ∀ i, i < m → pre (f i) n = many i
  le : ∀ g, g < n → pre (fun i => f i g) m ≤ S g
/-- What is asked for, by numbers of orders. -/
def askF (gr : Nat → Nat) (many : Nat → Int) (m k : Nat) : Int := pre (fun i => if gr i ≤ k then many i else 0) m
section
variable {gr : Nat → Nat} {many S : Nat → Int} {m n : Nat} {f : Nat → Nat → Int}
theorem pre_stop {f : Nat → Int} {k : Nat} : ∀ n : Nat, k ≤ n → (∀ g, k ≤ g → g < n → f g = 0) → pre f n = pre f k
  | 0, h, _ => by rw [show k = 0 by omega]
  | n + 1, h, h0 => by
    by_cases e : k = n + 1
    · rw [e]
    · show pre f n + f n = _
      rw [pre_stop n (by omega) fun g h1 h2 => h0 g h1 (by omega), h0 n (by omega) (by omega)]
      omega
theorem RightF.asked (h : RightF gr many S m n f) {k : Nat} (hk : k < n) : askF gr many m k ≤ pre (fun g => pre (fun i => f i g) m) (k + 1) := by
  rw [pre_comm]
  refine pre_le m fun i hi => ?_
  by_cases c : gr i ≤ k
  · rw [if_pos c, ← h.sum i hi, pre_stop n (k := k + 1) (by omega) fun g h1 h2 => h.no i hi g h2 (by omega)]
    exact Int.le_refl _
  · rw [if_neg c]
    exact pre_nonneg' _ fun g hg => h.nn i hi g (by omega)
theorem pre_step_le {F S : Nat → Int} {n : Nat} (h : ∀ g, g < n → F g ≤ S g) {a b : Nat} (hab : a ≤ b) (hb : b ≤ n) : pre F b - pre F a ≤ pre S b - pre S a := by
  obtain ⟨d, rfl⟩ := Nat.exists_eq_add_of_le hab
  induction d with
  | zero => simp
  | succ d ih =>
    have h1 := ih (by omega) (by omega)
    have h2 := h (a + d) (by omega)
    show pre F (a + d) + F (a + d) - pre F a ≤ pre S (a + d) + S (a + d) - pre S a
    omega
/-- **A right fill spends up to each grade at least what must be spent.** -/
theorem RightF.spends (h : RightF gr many S m n f) {g : Nat} (hg : g < n) {t : Int} (ht : IsT S (askF gr many m) n g t) : t ≤ pre (fun g => pre (fun i => f i g) m) (g + 1) := by
  rcases ht.is with e | ⟨k, h1, h2, e⟩
  · rw [e]
    exact pre_nonneg' _ fun g' hg' => pre_nonneg' _ fun i hi => h.nn i hi g' (by omega)
  · have h3 := h.asked h2
    have h4 := pre_step_le h.le (show g + 1 ≤ k + 1 by omega) (by omega)
    omega
theorem RightF.can (h : RightF gr many S m n f) {g : Nat} (hg : g < n) : askF gr many m g ≤ pre S (g + 1) :=
  Int.le_trans (h.asked hg) (pre_le _ fun k hk => h.le k (by omega))
/-- **No proof proves more than a right fill costs.** -/
theorem RightF.weak (h : RightF gr many S m n f) (P p c : Nat → Int) (hp : ∀ g, g < n → 0 ≤ p g) (hc : ∀ i, i < m → ∀ g, g < n → g ≤ gr i → c i ≤ P g + p g) :
    pre (fun i => many i * c i) m - pre (fun g => p g * S g) n ≤ costF P (fun g => pre (fun i => f i g) m) n := by
  have h1 : pre (fun i => many i * c i) m ≤ pre (fun i => pre (fun g => (P g + p g) * f i g) n) m := by
    refine pre_le m fun i hi => ?_
    rw [← h.sum i hi, Int.mul_comm, ← pre_mul]
    refine pre_le n fun g hg => ?_
    by_cases cg : g ≤ gr i
    · exact Int.mul_le_mul_of_nonneg_right (hc i hi g hg cg) (h.nn i hi g hg)
    · rw [h.no i hi g hg (by omega), Int.mul_zero, Int.mul_zero]
      exact Int.le_refl _
  have h2 : pre (fun i => pre (fun g => (P g + p g) * f i g) n) m = pre (fun g => P g * pre (fun i => f i g) m) n + pre (fun g => p g * pre (fun i => f i g) m) n := by
    rw [pre_comm, ← pre_add]
    refine pre_congr n fun g hg => ?_
    rw [pre_mul, Int.add_mul]
  have h3 : pre (fun g => p g * pre (fun i => f i g) m) n ≤ pre (fun g => p g * S g) n := pre_le n fun g hg => Int.mul_le_mul_of_nonneg_left (h.le g hg) (hp g hg)
  show _ ≤ pre (fun g => P g * pre (fun i => f i g) m) n
  omega
end
/-! ### What must be spent, and worths -/
theorem askF_nonneg {gr : Nat → Nat} {many : Nat → Int} {m : Nat} (h : ∀ i, i < m → 0 ≤ many i) (k : Nat) : 0 ≤ askF gr many m k := by
  refine pre_nonneg' m fun i hi => ?_
  split
  · exact h i hi
  · exact Int.le_refl _
/-- The least grade at which what must be spent up to a grade is attained. -/
theorem most_first {S a : Nat → Int} {n g : Nat} (hg : g < n) (ha : ∀ k, 0 ≤ a k) : ∃ m, g ≤ m ∧ m < n ∧ mostG S a n g = a m - (pre S (m + 1) - pre S (g + 1)) ∧ ∀ k, g ≤ k → k < m → a k - (pre S (k + 1) - pre S (g + 1)) < mostG S a n g := by
  have hT := mostG_is S a (show g ≤ n by omega)
  have hex : ∃ m, g ≤ m ∧ m < n ∧ mostG S a n g = a m - (pre S (m + 1) - pre S (g + 1)) := by
    rcases hT.is with e | ⟨m, h1, h2, h3⟩
    · refine ⟨g, Nat.le_refl _, hg, ?_⟩
      have h1 := hT.ge g (Nat.le_refl _) hg
      have h2 := ha g
      omega
    · exact ⟨m, h1, h2, h3⟩
  have key : ∀ d m, m ≤ g + d → g ≤ m → m < n → mostG S a n g = a m - (pre S (m + 1) - pre S (g + 1)) → ∃ m, g ≤ m ∧ m < n ∧ mostG S a n g = a m - (pre S (m + 1) - pre S (g + 1)) ∧ ∀ k, g ≤ k → k < m → a k - (pre S (k + 1) - pre S (g + 1)) < mostG S a n g := by
    intro d
    induction d with
    | zero => intro m h1 h2 h3 h4; exact ⟨m, h2, h3, h4, fun k h5 h6 => by omega⟩
    | succ d ih =>
      intro m h1 h2 h3 h4
      by_cases c : ∀ k, g ≤ k → k < m → a k - (pre S (k + 1) - pre S (g + 1)) < mostG S a n g
      · exact ⟨m, h2, h3, h4, c⟩
      · simp only [Classical.not_forall] at c
        obtain ⟨k, h5, h6, h7⟩ := c
        have h8 := hT.ge k h5 (by omega)
        exact ih k (by omega) h5 (by omega) (by omega)
  obtain ⟨m, h1, h2, h3⟩ := hex
  exact key (m - g) m (by omega) h1 h2 h3
/-- With one more sheet of a grade. -/
theorem pre_more (S : Nat → Int) (g : Nat) (d : Int) (k : Nat) : pre (upd S g (S g + d)) k = pre S k + if g < k then d else 0 := by
  by_cases c : g < k
  · rw [pre_upd S g _ k c, if_pos c]; omega
  · rw [pre_upd_lt S _ (by omega), if_neg c]; omega
theorem most_one {S a : Nat → Int} {n g j m : Nat} (hj : j < n) (hm : j ≤ m) (hmn : m < n) (hT : mostG S a n j = a m - (pre S (m + 1) - pre S (j + 1))) (hmin : ∀ k, j ≤ k → k < m → a k - (pre S (k + 1) - pre S (j + 1)) < mostG S a n j) (ha : ∀ k, 0 ≤ a k) :
    mostG (upd S g (S g + 1)) a n j = mostG S a n j - if j < g ∧ g ≤ m then 1 else 0 := by
  have h0 := mostG_is S a (show j ≤ n by omega)
  refine (mostG_is (upd S g (S g + 1)) a (show j ≤ n by omega)).uniq ⟨?_, fun k h1 h2 => ?_, .inr ?_⟩
  · split
    · rename_i c
      have := hmin j (Nat.le_refl _) (by omega)
      have := ha j
      omega
    · have := h0.pos; omega
  · rw [pre_more, pre_more]
    have h3 := h0.ge k h1 h2
    by_cases c : j < g ∧ g ≤ m
    · rw [if_pos c]
      by_cases ck : k < m
      · have h4 := hmin k h1 ck
        split <;> split <;> omega
      · rw [if_pos (by omega), if_neg (by omega)]
        omega
    · rw [if_neg c]
      split <;> split <;> omega
  · by_cases c : j < g ∧ g ≤ m
    · refine ⟨m, hm, hmn, ?_⟩
      rw [if_pos c, pre_more, pre_more, if_pos (by omega), if_neg (by omega)]
      omega
    · refine ⟨m, hm, hmn, ?_⟩
      rw [if_neg c, pre_more, pre_more]
      by_cases c2 : g < m + 1
      · rw [if_pos c2, if_pos (by omega)]; omega
      · rw [if_neg c2, if_neg (by omega)]; omega
/-- The least cost, by what must be spent up to each grade. -/
def leastT (P S a : Nat → Int) (n : Nat) : Int := pre (fun j => dif P n j * mostG S a n j) n
/-- What one more sheet of a grade is worth. -/
def worthT (P S a : Nat → Int) (n g : Nat) : Int := leastT P S a n - leastT P (upd S g (S g + 1)) a n
section
variable {P S a : Nat → Int} {n : Nat}
theorem worth_sum (ha : ∀ k, 0 ≤ a k) : ∃ ms : Nat → Nat, (∀ j, j < n → j ≤ ms j ∧ ms j < n ∧ mostG S a n j = a (ms j) - (pre S (ms j + 1) - pre S (j + 1))) ∧ ∀ g, worthT P S a n g = pre (fun j => dif P n j * if j < g ∧ g ≤ ms j then 1 else 0) n := by
  have hex : ∀ j, ∃ m, j < n → j ≤ m ∧ m < n ∧ mostG S a n j = a m - (pre S (m + 1) - pre S (j + 1)) ∧ ∀ k, j ≤ k → k < m → a k - (pre S (k + 1) - pre S (j + 1)) < mostG S a n j := fun j => by
    by_cases hj : j < n
    · obtain ⟨m, h⟩ := most_first (S := S) hj ha
      exact ⟨m, fun _ => h⟩
    · exact ⟨0, fun h => absurd h hj⟩
  obtain ⟨ms, hms⟩ := Classical.axiomOfChoice hex
  refine ⟨ms, fun j hj => ⟨(hms j hj).1, (hms j hj).2.1, (hms j hj).2.2.1⟩, fun g => ?_⟩
  unfold worthT leastT
  rw [← pre_sub]
  refine pre_congr n fun j hj => ?_
  obtain ⟨h1, h2, h3, h4⟩ := hms j hj
  rw [most_one (g := g) hj h1 h2 h3 h4 ha, ← Int.mul_sub]
  congr 1
  omega
/-- **A worth is from 0 to the difference of its price and the best one.** -/
theorem worth_bound (ha : ∀ k, 0 ≤ a k) (h0 : ∀ j, j < n → 0 ≤ P j) (hP : ∀ j, j + 1 < n → P (j + 1) ≤ P j) {g : Nat} (hg : g < n) : 0 ≤ worthT P S a n g ∧ worthT P S a n g + P g ≤ P 0 := by
  obtain ⟨ms, hms, hw⟩ := worth_sum (P := P) (S := S) (a := a) (n := n) ha
  rw [hw g]
  have hd := fun j (hj : j < n) => dif_nonneg h0 hP hj
  refine ⟨pre_nonneg' n fun j hj => ?_, ?_⟩
  · have := hd j hj
    split <;> omega
  · have h1 := dif_sum P n (n - g) g (by omega)
    rw [if_pos hg] at h1
    have h2 := dif_sum P n n 0 (by omega)
    rw [if_pos (by omega)] at h2
    rw [← h1, ← h2, ← pre_add]
    refine pre_le n fun j hj => ?_
    have := hd j hj
    rw [if_pos (Nat.zero_le _)]
    by_cases c : g ≤ j
    · rw [if_pos c, if_neg (by omega)]; omega
    · rw [if_neg c]
      split <;> omega
/-- Price and worth, by thresholds. -/
theorem price_worth (ha : ∀ k, 0 ≤ a k) : ∃ ms : Nat → Nat, (∀ j, j < n → j ≤ ms j ∧ ms j < n ∧ mostG S a n j = a (ms j) - (pre S (ms j + 1) - pre S (j + 1))) ∧ (∀ g, worthT P S a n g = pre (fun j => dif P n j * if j < g ∧ g ≤ ms j then 1 else 0) n) ∧ ∀ g, g < n → P g + worthT P S a n g = pre (fun j => if g ≤ ms j then dif P n j else 0) n := by
  obtain ⟨ms, hms, hw⟩ := worth_sum (P := P) (S := S) (a := a) (n := n) ha
  refine ⟨ms, hms, hw, fun g hg => ?_⟩
  have h1 := dif_sum P n (n - g) g (by omega)
  rw [if_pos hg] at h1
  rw [hw g, ← h1, ← pre_add]
  refine pre_congr n fun j hj => ?_
  have := hms j hj
  by_cases c : g ≤ j
  · rw [if_pos c, if_neg (by omega), if_pos (by omega)]; omega
  · rw [if_neg c]
    by_cases c2 : g ≤ ms j
    · rw [if_pos c2, if_pos (by omega)]; omega
    · rw [if_neg c2, if_neg (by omega)]; omega
/-- **A better grade is worth at least as much, less the difference of both prices.** -/
theorem worth_mono (ha : ∀ k, 0 ≤ a k) (h0 : ∀ j, j < n → 0 ≤ P j) (hP : ∀ j, j + 1 < n → P (j + 1) ≤ P j) {g h : Nat} (hgh : g ≤ h) (hh : h < n) : P h + worthT P S a n h ≤ P g + worthT P S a n g := by
  obtain ⟨ms, hms, _, hw⟩ := price_worth (P := P) (S := S) (a := a) (n := n) ha
  rw [hw g (by omega), hw h hh]
  refine pre_le n fun j hj => ?_
  have := dif_nonneg h0 hP hj
  by_cases c : h ≤ ms j
  · rw [if_pos c, if_pos (by omega)]; exact Int.le_refl _
  · rw [if_neg c]
    split <;> omega
end
/-- **The worths of all grades are a proof of the least cost.** -/
theorem strong {gr : Nat → Nat} {many S P : Nat → Int} {m n : Nat} (hmn : ∀ i, i < m → 0 ≤ many i) (hgr : ∀ i, i < m → gr i < n) :
    pre (fun i => many i * (P (gr i) + worthT P S (askF gr many m) n (gr i))) m - pre (fun g => worthT P S (askF gr many m) n g * S g) n = leastT P S (askF gr many m) n := by
  obtain ⟨ms, hms, hw, hq⟩ := price_worth (P := P) (S := S) (a := askF gr many m) (n := n) (askF_nonneg hmn)
  have h1 : pre (fun i => many i * (P (gr i) + worthT P S (askF gr many m) n (gr i))) m = pre (fun j => dif P n j * askF gr many m (ms j)) n := by
    have e1 : pre (fun i => many i * (P (gr i) + worthT P S (askF gr many m) n (gr i))) m = pre (fun i => pre (fun j => many i * if gr i ≤ ms j then dif P n j else 0) n) m := by
      refine pre_congr m fun i hi => ?_
      rw [hq (gr i) (hgr i hi), pre_mul]
    rw [e1, pre_comm]
    refine pre_congr n fun j hj => ?_
    unfold askF
    rw [← pre_mul]
    refine pre_congr m fun i hi => ?_
    by_cases c : gr i ≤ ms j
    · rw [if_pos c, if_pos c, Int.mul_comm]
    · rw [if_neg c, if_neg c, Int.mul_zero, Int.mul_zero]
  have h2 : pre (fun g => worthT P S (askF gr many m) n g * S g) n = pre (fun j => dif P n j * (pre S (ms j + 1) - pre S (j + 1))) n := by
    have e1 : pre (fun g => worthT P S (askF gr many m) n g * S g) n = pre (fun g => pre (fun j => dif P n j * (if j < g ∧ g ≤ ms j then S g else 0)) n) n := by
      refine pre_congr n fun g hg => ?_
      rw [hw g, Int.mul_comm, ← pre_mul]
      refine pre_congr n fun j hj => ?_
      by_cases c : j < g ∧ g ≤ ms j
      · rw [if_pos c, if_pos c, Int.mul_one, Int.mul_comm]
      · rw [if_neg c, if_neg c, Int.mul_zero, Int.mul_zero]
    rw [e1, pre_comm]
    refine pre_congr n fun j hj => ?_
    rw [pre_mul, pre_from S (hms j hj).1 n (hms j hj).2.1]
  rw [h1, h2, ← pre_sub]
  unfold leastT
  refine pre_congr n fun j hj => ?_
  rw [← Int.mul_sub]
  congr 1
  have := (hms j hj).2.2
  omega
/-! ### The least cost -/
/-- What is spent of a grade. -/
def spentT (S a : Nat → Int) (n g : Nat) : Int := mostG S a n g - (match g with | 0 => 0 | k + 1 => mostG S a n k)
theorem spentT_pre (S a : Nat → Int) (n : Nat) : ∀ g, pre (spentT S a n) (g + 1) = mostG S a n g
  | 0 => by show 0 + (mostG S a n 0 - 0) = _; omega
  | g + 1 => by
    show pre (spentT S a n) (g + 1) + (mostG S a n (g + 1) - mostG S a n g) = _
    rw [spentT_pre S a n g]
    omega
theorem least_cost (P S a : Nat → Int) (n : Nat) : costF P (spentT S a n) n = leastT P S a n := by
  rw [cost_abel]
  exact pre_congr n fun j hj => by rw [spentT_pre]
theorem mostG_mono {S S' a a' : Nat → Int} {n : Nat} (hS : ∀ g, g < n → S g ≤ S' g) (ha : ∀ k, k < n → a' k ≤ a k) {g : Nat} (hg : g < n) : mostG S' a' n g ≤ mostG S a n g := by
  have h := mostG_is S a (show g ≤ n by omega)
  rcases (mostG_is S' a' (show g ≤ n by omega)).is with e | ⟨m, h1, h2, e⟩
  · rw [e]; exact h.pos
  · have h3 := h.ge m h1 h2
    have h4 := pre_step_le hS (show g + 1 ≤ m + 1 by omega) (by omega)
    have h5 := ha m h2
    omega
theorem leastT_mono {P S S' a a' : Nat → Int} {n : Nat} (h0 : ∀ j, j < n → 0 ≤ P j) (hP : ∀ j, j + 1 < n → P (j + 1) ≤ P j) (hS : ∀ g, g < n → S g ≤ S' g) (ha : ∀ k, k < n → a' k ≤ a k) : leastT P S' a' n ≤ leastT P S a n :=
  pre_le n fun _ hj => Int.mul_le_mul_of_nonneg_left (mostG_mono hS ha hj) (dif_nonneg h0 hP hj)
theorem mostG_congr {S S' a a' : Nat → Int} {n : Nat} (hS : ∀ g, g < n → S g = S' g) (ha : ∀ k, k < n → a k = a' k) {g : Nat} (hg : g < n) : mostG S a n g = mostG S' a' n g :=
  Int.le_antisymm (mostG_mono (fun k hk => by rw [hS k hk]; exact Int.le_refl _) (fun k hk => by rw [ha k hk]; exact Int.le_refl _) hg) (mostG_mono (fun k hk => by rw [hS k hk]; exact Int.le_refl _) (fun k hk => by rw [ha k hk]; exact Int.le_refl _) hg)
theorem RightF.cost {gr : Nat → Nat} {many S P : Nat → Int} {m n : Nat} {f : Nat → Nat → Int} (h : RightF gr many S m n f) (h0 : ∀ j, j < n → 0 ≤ P j) (hP : ∀ j, j + 1 < n → P (j + 1) ≤ P j) : leastT P S (askF gr many m) n ≤ costF P (fun g => pre (fun i => f i g) m) n := by
  rw [← least_cost]
  refine cost_le h0 hP fun g hg => ?_
  rw [spentT_pre]
  exact h.spends hg (mostG_is _ _ (by omega))
end Go.Proofs.Ytmfiggbobaihcaa.Gr9
