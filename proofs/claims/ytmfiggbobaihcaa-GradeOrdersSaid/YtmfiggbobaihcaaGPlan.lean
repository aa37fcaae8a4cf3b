/- Plain law of chapter 9: orders that are filled in the order of their grades, each from its own grade up, spend up to each grade what must be spent; any right fill spends at least as much; what one more sheet of each grade is worth proves the least cost. No program. -/
namespace Go.Proofs.Ytmfiggbobaihcaa.Gr9

/-! ### Sums -/
/-- The sum of the first so many numbers. -/
def pre (f : Nat → Int) : Nat → Int
  | 0 => 0
  | n + 1 => pre f n + f n
theorem pre_congr {f g : Nat → Int} : ∀ n : Nat, (∀ i, i < n → f i = g i) → pre f n = pre g n
  | 0, _ => rfl
  | n + 1, h => by
    unfold pre
    rw [pre_congr n fun i hi => h i (by omega), h n (by omega)]
theorem pre_mono {f : Nat → Int} (hf : ∀ i, 0 ≤ f i) {a b : Nat} (h : a ≤ b) : pre f a ≤ pre f b := by
  obtain ⟨d, rfl⟩ := Nat.exists_eq_add_of_le h
  induction d with
  | zero => exact Int.le_refl _
  | succ d ih =>
    have h1 := ih (by omega)
    have h2 := hf (a + d)
    show pre f a ≤ pre f (a + d) + f (a + d)
    omega
theorem pre_nonneg {f : Nat → Int} (hf : ∀ i, 0 ≤ f i) (n : Nat) : 0 ≤ pre f n := pre_mono hf (Nat.zero_le n)
theorem pre_le {f g : Nat → Int} : ∀ n : Nat, (∀ i, i < n → f i ≤ g i) → pre f n ≤ pre g n
  | 0, _ => Int.le_refl _
  | n + 1, h => by
    have h1 := pre_le n fun i hi => h i (by omega)
    have h2 := h n (by omega)
    unfold pre
    omega
theorem pre_sub (f g : Nat → Int) : ∀ n : Nat, pre (fun i => f i - g i) n = pre f n - pre g n
  | 0 => rfl
  | n + 1 => by
    unfold pre
    rw [pre_sub f g n]
    omega
theorem pre_add (f g : Nat → Int) : ∀ n : Nat, pre (fun i => f i + g i) n = pre f n + pre g n
  | 0 => rfl
  | n + 1 => by
    unfold pre
    rw [pre_add f g n]
    omega
def upd (f : Nat → Int) (j : Nat) (v : Int) : Nat → Int := fun i => if i = j then v else f i
theorem pre_upd_lt (f : Nat → Int) {j n : Nat} (v : Int) (h : n ≤ j) : pre (upd f j v) n = pre f n := pre_congr n fun i hi => by unfold upd; rw [if_neg (by omega)]
theorem pre_upd (f : Nat → Int) (j : Nat) (v : Int) : ∀ n : Nat, j < n → pre (upd f j v) n = pre f n - f j + v
  | 0, h => by omega
  | n + 1, h => by
    unfold pre
    by_cases e : j = n
    · subst e
      rw [pre_upd_lt f v (Nat.le_refl _)]
      unfold upd
      rw [if_pos rfl]
      omega
    · rw [pre_upd f j v n (by omega)]
      unfold upd
      rw [if_neg (by omega)]
      omega

/-! ### One order -/
/-- From one grade up to the best: what is left, and what is still wanted. -/
def takeG : Nat → (Nat → Int) → Int → (Nat → Int) × Int
  | 0, left, want => (left, want)
  | j + 1, left, want => takeG j (upd left j (left j - min want (left j))) (want - min want (left j))
theorem take_above : ∀ (j : Nat) (left : Nat → Int) (want : Int) (i : Nat), j ≤ i → (takeG j left want).1 i = left i
  | 0, _, _, _, _ => rfl
  | j + 1, left, want, i, h => by
    unfold takeG
    rw [take_above j _ _ i (by omega)]
    unfold upd
    rw [if_neg (by omega)]
theorem take_nonneg : ∀ (j : Nat) (left : Nat → Int) (want : Int), (∀ i, 0 ≤ left i) → 0 ≤ want → (∀ i, 0 ≤ (takeG j left want).1 i ∧ (takeG j left want).1 i ≤ left i) ∧ 0 ≤ (takeG j left want).2
  | 0, left, want, hl, hw => ⟨fun i => ⟨hl i, Int.le_refl _⟩, hw⟩
  | j + 1, left, want, hl, hw => by
    have hj := hl j
    unfold takeG
    obtain ⟨h1, h2⟩ := take_nonneg j (upd left j (left j - min want (left j))) (want - min want (left j)) (fun i => by unfold upd; split <;> first | omega | exact hl i) (by omega)
    refine ⟨fun i => ⟨(h1 i).1, Int.le_trans (h1 i).2 ?_⟩, h2⟩
    unfold upd
    split
    · rename_i e; subst e; omega
    · exact Int.le_refl _
/-- What is left up to each grade, if there is enough. -/
theorem take_pre : ∀ (j : Nat) (left : Nat → Int) (want : Int), (∀ i, 0 ≤ left i) → 0 ≤ want → want ≤ pre left j → (takeG j left want).2 = 0 ∧ ∀ g, g ≤ j → pre (takeG j left want).1 g = pre left g - max 0 (want - (pre left j - pre left g))
  | 0, left, want, _, hw, h => by
    have h0 : pre left 0 = 0 := rfl
    refine ⟨by unfold takeG; simp only; omega, fun g hg => ?_⟩
    obtain rfl : g = 0 := by omega
    unfold takeG
    simp only
    omega
  | j + 1, left, want, hl, hw, h => by
    have hj := hl j
    have hp : pre left (j + 1) = pre left j + left j := rfl
    have hpn := pre_nonneg hl j
    unfold takeG
    have hl' : ∀ i, 0 ≤ upd left j (left j - min want (left j)) i := fun i => by unfold upd; split <;> first | omega | exact hl i
    have hu : ∀ g, g ≤ j → pre (upd left j (left j - min want (left j))) g = pre left g := fun g hg => pre_upd_lt left _ hg
    obtain ⟨h1, h2⟩ := take_pre j (upd left j (left j - min want (left j))) (want - min want (left j)) hl' (by omega) (by rw [hu j (Nat.le_refl _)]; omega)
    refine ⟨h1, fun g hg => ?_⟩
    by_cases e : g = j + 1
    · subst e
      have h3 := h2 j (Nat.le_refl _)
      rw [hu j (Nat.le_refl _)] at h3
      show pre _ j + (takeG j _ _).1 j = _
      rw [h3, take_above j _ _ j (Nat.le_refl _), hp]
      unfold upd
      rw [if_pos rfl]
      omega
    · rw [h2 g (by omega), hu g (by omega), hu j (Nat.le_refl _), hp]
      have hm := pre_mono hl (show g ≤ j by omega)
      omega

/-! ### All orders -/
/-- What orders ask for, of a grade or of better ones: pairs of a grade and how many. -/
def asked (os : List (Nat × Int)) (k : Nat) : Int := (os.map fun o => if o.1 ≤ k then o.2 else 0).sum
theorem asked_nil (k : Nat) : asked [] k = 0 := rfl
theorem asked_cons (o : Nat × Int) (os : List (Nat × Int)) (k : Nat) : asked (o :: os) k = (if o.1 ≤ k then o.2 else 0) + asked os k := rfl
theorem asked_app (os os' : List (Nat × Int)) (k : Nat) : asked (os ++ os') k = asked os k + asked os' k := by
  unfold asked
  rw [List.map_append, List.sum_append]
theorem asked_perm {os os' : List (Nat × Int)} (h : os.Perm os') (k : Nat) : asked os k = asked os' k := by
  unfold asked
  induction h with
  | nil => rfl
  | cons x _ ih => rw [List.map_cons, List.map_cons, List.sum_cons, List.sum_cons, ih]
  | swap x y l => simp only [List.map_cons, List.sum_cons]; omega
  | trans _ _ h1 h2 => exact h1.trans h2
theorem asked_nonneg {os : List (Nat × Int)} (h : ∀ o ∈ os, 0 ≤ o.2) (k : Nat) : 0 ≤ asked os k := by
  induction os with
  | nil => exact Int.le_refl _
  | cons o os ih =>
    have h1 := h o (by simp)
    have h2 := ih fun x hx => h x (by simp [hx])
    rw [asked_cons]
    split <;> omega
theorem asked_mono {os : List (Nat × Int)} (h : ∀ o ∈ os, 0 ≤ o.2) {j k : Nat} (hjk : j ≤ k) : asked os j ≤ asked os k := by
  induction os with
  | nil => exact Int.le_refl _
  | cons o os ih =>
    have h1 := h o (by simp)
    have h2 := ih fun x hx => h x (by simp [hx])
    rw [asked_cons, asked_cons]
    by_cases c : o.1 ≤ j
    · rw [if_pos c, if_pos (by omega)]; omega
    · rw [if_neg c]
      split <;> omega
/-- What is spent up to a grade, at least: v is it. -/
structure IsT (S : Nat → Int) (a : Nat → Int) (n g : Nat) (v : Int) : Prop where
  pos : 0 ≤ v
  ge : ∀ m, g ≤ m → m < n → a m - (pre S (m + 1) - pre S (g + 1)) ≤ v
  is : v = 0 ∨ ∃ m, g ≤ m ∧ m < n ∧ v = a m - (pre S (m + 1) - pre S (g + 1))
theorem IsT.uniq {S a : Nat → Int} {n g : Nat} {v u : Int} (h : IsT S a n g v) (h' : IsT S a n g u) : v = u := by
  apply Int.le_antisymm
  · rcases h.is with e | ⟨m, h1, h2, e⟩
    · rw [e]; exact h'.pos
    · rw [e]; exact h'.ge m h1 h2
  · rcases h'.is with e | ⟨m, h1, h2, e⟩
    · rw [e]; exact h.pos
    · rw [e]; exact h.ge m h1 h2
/-- The document's most. -/
def mostTo (S a : Nat → Int) (g : Nat) : Nat → Int
  | 0 => 0
  | k + 1 => max (mostTo S a g k) (a (g + k) - (pre S (g + k + 1) - pre S (g + 1)))
def mostG (S a : Nat → Int) (n g : Nat) : Int := mostTo S a g (n - g)
theorem most_is (S a : Nat → Int) (g : Nat) : ∀ k : Nat, IsT S a (g + k) g (mostTo S a g k)
  | 0 => ⟨Int.le_refl _, fun m h1 h2 => by omega, .inl rfl⟩
  | k + 1 => by
    have ih := most_is S a g k
    unfold mostTo
    refine ⟨by have := ih.pos; omega, fun m h1 h2 => ?_, ?_⟩
    · by_cases e : m = g + k
      · subst e; omega
      · have := ih.ge m h1 (by omega); omega
    · by_cases c : mostTo S a g k ≤ a (g + k) - (pre S (g + k + 1) - pre S (g + 1))
      · exact .inr ⟨g + k, by omega, by omega, by omega⟩
      · rcases ih.is with e | ⟨m, h1, h2, e⟩
        · exact .inl (by omega)
        · exact .inr ⟨m, h1, by omega, by omega⟩
theorem mostG_is (S a : Nat → Int) {n g : Nat} (hg : g ≤ n) : IsT S a n g (mostG S a n g) := by
  have h := most_is S a g (n - g)
  rw [show g + (n - g) = n by omega] at h
  exact h
/-- The greedy filling: all orders, one behind the other. -/
def fillG (left : Nat → Int) (os : List (Nat × Int)) : Nat → Int := os.foldl (fun l o => (takeG (o.1 + 1) l o.2).1) left
/-- What has been spent so far, up to each grade. -/
structure SoFar (S left : Nat → Int) (n : Nat) (done : List (Nat × Int)) : Prop where
  nn : ∀ i, 0 ≤ left i
  le : ∀ i, left i ≤ S i
  is : ∀ g, g < n → IsT S (asked done) n g (pre S (g + 1) - pre left (g + 1))
theorem SoFar.start {S : Nat → Int} (n : Nat) (hS : ∀ i, 0 ≤ S i) : SoFar S S n [] := by
  refine ⟨hS, fun i => Int.le_refl _, fun g hg => ⟨by omega, fun m h1 _ => ?_, .inl (by omega)⟩⟩
  have := pre_mono hS (show g + 1 ≤ m + 1 by omega)
  rw [asked_nil]
  omega
/-- All that were filled so far have no worse grade. -/
theorem asked_top {done : List (Nat × Int)} {k m : Nat} (h : ∀ o ∈ done, o.1 ≤ k) (hkm : k ≤ m) : asked done m = asked done k := by
  induction done with
  | nil => rfl
  | cons o done ih =>
    have h1 := h o (by simp)
    rw [asked_cons, asked_cons, ih fun x hx => h x (by simp [hx]), if_pos h1, if_pos (by omega)]
theorem SoFar.step {S left : Nat → Int} {n : Nat} {done : List (Nat × Int)} {k : Nat} {q : Int} (h : SoFar S left n done) (hS : ∀ i, 0 ≤ S i) (hk : k < n) (hq : 0 ≤ q) (hd : ∀ o ∈ done, o.1 ≤ k) (hp : ∀ o ∈ done, 0 ≤ o.2) (hcan : asked done k + q ≤ pre S (k + 1)) :
    (takeG (k + 1) left q).2 = 0 ∧ SoFar S (takeG (k + 1) left q).1 n (done ++ [(k, q)]) := by
  have hak : pre S (k + 1) - pre left (k + 1) = asked done k := by
    refine (h.is k hk).uniq ⟨asked_nonneg hp k, fun m h1 h2 => ?_, .inr ⟨k, Nat.le_refl _, hk, by omega⟩⟩
    have := pre_mono hS (show k + 1 ≤ m + 1 by omega)
    rw [asked_top hd h1]
    omega
  obtain ⟨t1, t2⟩ := take_pre (k + 1) left q h.nn hq (by omega)
  have tn := (take_nonneg (k + 1) left q h.nn hq).1
  have hsing : ∀ m, asked [(k, q)] m = if k ≤ m then q else 0 := fun m => by rw [asked_cons, asked_nil]; simp
  refine ⟨t1, fun i => (tn i).1, fun i => Int.le_trans (tn i).2 (h.le i), fun g hg => ?_⟩
  have hg0 := h.is g hg
  by_cases hgk : g ≤ k
  · rw [t2 (g + 1) (by omega)]
    have hmn := pre_mono hS (show g + 1 ≤ k + 1 by omega)
    refine ⟨by have := hg0.pos; omega, fun m h1 h2 => ?_, ?_⟩
    · rw [asked_app, hsing]
      have h3 := hg0.ge m h1 h2
      by_cases c : k ≤ m
      · rw [if_pos c, asked_top hd c]
        have h4 := pre_mono hS (show k + 1 ≤ m + 1 by omega)
        omega
      · rw [if_neg c]
        omega
    · by_cases c : q - (pre left (k + 1) - pre left (g + 1)) ≤ 0
      · rcases hg0.is with e | ⟨m, h1, h2, e⟩
        · exact .inl (by omega)
        · by_cases ckm : k ≤ m
          · -- attained at or behind k: then nothing more is taken from these
            refine .inr ⟨k, hgk, hk, ?_⟩
            rw [asked_app, hsing, if_pos (Nat.le_refl _)]
            rw [asked_top hd ckm] at e
            have h4 := pre_mono hS (show k + 1 ≤ m + 1 by omega)
            have h5 := pre_mono h.nn (show g + 1 ≤ k + 1 by omega)
            omega
          · refine .inr ⟨m, h1, h2, ?_⟩
            rw [asked_app, hsing, if_neg ckm]
            omega
      · refine .inr ⟨k, hgk, hk, ?_⟩
        rw [asked_app, hsing, if_pos (Nat.le_refl _)]
        omega
  · have hlt : k < g := by omega
    have hpre : pre (takeG (k + 1) left q).1 (g + 1) = pre left (g + 1) - q := by
      have key : ∀ d, pre (takeG (k + 1) left q).1 (k + 1 + d) = pre left (k + 1 + d) - q := fun d => by
        induction d with
        | zero => rw [Nat.add_zero, t2 (k + 1) (Nat.le_refl _)]; omega
        | succ d ih =>
          show pre _ (k + 1 + d) + (takeG (k + 1) left q).1 (k + 1 + d) = pre left (k + 1 + d) + left (k + 1 + d) - q
          rw [ih, take_above (k + 1) left q _ (by omega)]
          omega
      have := key (g - k)
      rwa [show k + 1 + (g - k) = g + 1 by omega] at this
    rw [hpre]
    have hag : pre S (g + 1) - pre left (g + 1) = asked done g := by
      refine hg0.uniq ⟨asked_nonneg hp g, fun m h1 _ => ?_, .inr ⟨g, Nat.le_refl _, hg, by omega⟩⟩
      have := pre_mono hS (show g + 1 ≤ m + 1 by omega)
      rw [asked_top hd (show k ≤ m by omega), asked_top hd (show k ≤ g by omega)]
      omega
    have hnn := asked_nonneg hp g
    refine ⟨by omega, fun m h1 _ => ?_, .inr ⟨g, Nat.le_refl _, hg, ?_⟩⟩
    · have := pre_mono hS (show g + 1 ≤ m + 1 by omega)
      rw [asked_app, hsing, if_pos (by omega), asked_top hd (show k ≤ m by omega)]
      rw [asked_top hd (show k ≤ g by omega)] at hag
      omega
    · rw [asked_app, hsing, if_pos (by omega)]
      omega
/-- **The greedy filling spends what must be spent.** -/
theorem fill_all {S : Nat → Int} {n : Nat} (hS : ∀ i, 0 ≤ S i) : ∀ (rest done : List (Nat × Int)) (left : Nat → Int), SoFar S left n done → (done ++ rest).Pairwise (fun a b => a.1 ≤ b.1) → (∀ o ∈ done ++ rest, o.1 < n ∧ 0 ≤ o.2) → (∀ g, g < n → asked (done ++ rest) g ≤ pre S (g + 1)) → SoFar S (fillG left rest) n (done ++ rest)
  | [], done, left, h, _, _, _ => by rw [List.append_nil]; exact h
  | (k, q) :: rest, done, left, h, hs, ho, hcan => by
    have hk := ho (k, q) (by simp)
    have hd : ∀ o ∈ done, o.1 ≤ k := fun o hod => (List.pairwise_append.1 hs).2.2 o hod (k, q) (by simp)
    have hp : ∀ o ∈ done, 0 ≤ o.2 := fun o hod => (ho o (by simp [hod])).2
    have hc := hcan k hk.1
    rw [asked_app, asked_cons, if_pos (Nat.le_refl _)] at hc
    have hrn := asked_nonneg (os := rest) (fun o hor => (ho o (by simp [hor])).2) k
    simp only at hk hc
    obtain ⟨_, h2⟩ := h.step hS hk.1 hk.2 hd hp (by omega)
    have e : done ++ (k, q) :: rest = (done ++ [(k, q)]) ++ rest := by simp
    rw [e] at hs ho hcan ⊢
    exact fill_all hS rest (done ++ [(k, q)]) _ h2 hs ho hcan
end Go.Proofs.Ytmfiggbobaihcaa.Gr9
