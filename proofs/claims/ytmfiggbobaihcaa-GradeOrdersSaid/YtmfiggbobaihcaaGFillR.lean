/- Plain: the error and the cost of a fill. -/
import Derived.Test.YtmfiggbobaihcaaGFillP
namespace Go.Proofs.Ytmfiggbobaihcaa

/-- An order gets sheets that are not good enough. -/
def poorR (O : List Od) (X : List (List Int)) (i : Nat) : Nat → Bool
  | 0 => false
  | g + 1 => poorR O X i g || (decide (0 < fX X i g) && decide (gAt O i < (g : Int)))
def poorT (n : Nat) (O : List Od) (X : List (List Int)) : Nat → Bool
  | 0 => false
  | i + 1 => poorT n O X i || poorR O X i n
/-- An order does not get as many sheets as it asks for. -/
def sumT (n : Nat) (O : List Od) (X : List (List Int)) : Nat → Bool
  | 0 => false
  | i + 1 => sumT n O X i || decide (mAt O i - sumN (fX X i) n ≠ 0)
/-- What is given of a grade. -/
def gotP (X : List (List Int)) (i g : Nat) : Int := sumN (fun k => fX X k g) i
def gotX (X : List (List Int)) : Nat → Int := gotP X X.length
/-- More is given than there is. -/
def overT (M F : Nat → Int) : Nat → Bool
  | 0 => false
  | g + 1 => overT M F g || decide (M g < F g)
def badLen (n : Nat) (O : List Od) (X : List (List Int)) : Bool := decide (X.length ≠ O.length) || X.any fun x => decide (x.length ≠ n)
def badNum (X : List (List Int)) : Bool := X.any fun x => x.any (outR 0 20)
/-- The error of a fill. -/
def sizeE (S P : List Int) (O : List Od) (X : List (List Int)) : Int := if shopE S P O ≠ 0 then shopE S P O else if badLen S.length O X then 15 else if badNum X then 3 else 0
def fillE (S P : List Int) (O : List Od) (X : List (List Int)) : Int :=
  if sizeE S P O X ≠ 0 then sizeE S P O X else if poorT S.length O X X.length then 25 else if sumT S.length O X X.length then 14 else if overT (stockM S) (gotX X) S.length then 4 else 0
/-- What CheckFill returns. -/
def fillR (S P : List Int) (O : List Od) (X : List (List Int)) : Int × Int := if fillE S P O X ≠ 0 then (0, fillE S P O X) else (costL P (gotX X) S.length, 0)
/-- A fill of the right size. -/
structure Sized (n : Nat) (O : List Od) (X : List (List Int)) : Prop where
  len : X.length = O.length
  row : ∀ x ∈ X, x.length = n
  small : ∀ x ∈ X, ∀ y ∈ x, 0 ≤ y ∧ y ≤ 20
theorem sizeE_zero {S P : List Int} {O : List Od} {X : List (List Int)} (h : sizeE S P O X = 0) : shopE S P O = 0 ∧ Sized S.length O X := by
  unfold sizeE at h
  split at h
  · rename_i hn; exact absurd h hn
  split at h
  · cases h
  split at h
  · cases h
  rename_i h1 h2 h3
  unfold badLen at h2
  rw [Bool.or_eq_true, not_or, decide_eq_true_eq, Bool.not_eq_true, List.any_eq_false] at h2
  unfold badNum at h3
  rw [Bool.not_eq_true, List.any_eq_false] at h3
  refine ⟨Classical.not_not.1 h1, by omega, fun x hx => ?_, fun x hx y hy => ?_⟩
  · have := h2.2 x hx
    simpa using this
  · have h4 := h3 x hx
    rw [Bool.not_eq_true, List.any_eq_false] at h4
    exact out_in (by simpa using h4 y hy)
theorem sizeE_of {S P : List Int} {O : List Od} {X : List (List Int)} (he : shopE S P O = 0) (h : Sized S.length O X) : sizeE S P O X = 0 := by
  unfold sizeE
  rw [if_neg (fun h => h he), if_neg, if_neg]
  · unfold badNum
    rw [Bool.not_eq_true, List.any_eq_false]
    intro x hx
    rw [Bool.not_eq_true, List.any_eq_false]
    intro y hy
    have := h.small x hx y hy
    rw [outR_eq, outB, Bool.or_eq_true, decide_eq_true_eq, decide_eq_true_eq]
    omega
  · unfold badLen
    rw [Bool.or_eq_true, not_or, decide_eq_true_eq, Bool.not_eq_true, List.any_eq_false]
    exact ⟨fun hn => hn h.len, fun x hx => by simpa using h.row x hx⟩
section
variable {n : Nat} {O : List Od} {X : List (List Int)}
theorem fX_at {i g : Nat} {x : List Int} {y : Int} (hx : X[i]? = some x) (hy : x[g]? = some y) : fX X i g = y := by
  unfold fX
  rw [List.getD_eq_getElem?_getD, List.getD_eq_getElem?_getD, hx, Option.getD_some, hy, Option.getD_some]
theorem fX_out {i g : Nat} {x : List Int} (hx : X[i]? = some x) (hg : x.length ≤ g) : fX X i g = 0 := by
  unfold fX
  rw [List.getD_eq_getElem?_getD, List.getD_eq_getElem?_getD, hx, Option.getD_some, List.getElem?_eq_none hg]
  rfl
theorem fX_bound (h : ∀ x ∈ X, ∀ y ∈ x, 0 ≤ y ∧ y ≤ 20) (i g : Nat) : 0 ≤ fX X i g ∧ fX X i g ≤ 20 := by
  unfold fX
  rw [List.getD_eq_getElem?_getD (l := X)]
  cases hx : X[i]? with
  | none => simp
  | some x => exact getD_in (h x (List.mem_of_getElem? hx)) (by omega) g
theorem gotP_bound (h : ∀ x ∈ X, ∀ y ∈ x, 0 ≤ y ∧ y ≤ 20) (g i : Nat) : 0 ≤ gotP X i g ∧ gotP X i g ≤ 20 * i := sumN_bound i fun k _ => fX_bound h k g
/-- While a row is counted: the first grades of it are. -/
def mixG (X : List (List Int)) (i g : Nat) : Nat → Int := fun k => if k < g then gotP X (i + 1) k else gotP X i k
theorem mixG_zero (X : List (List Int)) (i : Nat) : mixG X i 0 = gotP X i := by
  funext k
  unfold mixG
  rw [if_neg (by omega)]
theorem mixG_own (X : List (List Int)) (i g : Nat) : mixG X i g g = gotP X i g := by unfold mixG; rw [if_neg (by omega)]
theorem mixG_step (X : List (List Int)) (i g : Nat) : mixG X i (g + 1) = Gr9.upd (mixG X i g) g (mixG X i g g + fX X i g) := by
  funext k
  show (if k < g + 1 then gotP X (i + 1) k else gotP X i k) = if k = g then mixG X i g g + fX X i g else if k < g then gotP X (i + 1) k else gotP X i k
  by_cases e : k = g
  · subst e
    rw [if_pos (by omega), if_pos rfl, mixG_own]
    rfl
  · rw [if_neg e]
    by_cases c : k < g
    · rw [if_pos (by omega), if_pos c]
    · rw [if_neg (by omega), if_neg c]
theorem mixG_all {i : Nat} {x : List Int} (hx : X[i]? = some x) (hl : x.length = n) : mixG X i n = gotP X (i + 1) := by
  funext k
  unfold mixG
  split
  · rfl
  · show gotP X i k = gotP X i k + fX X i k
    rw [fX_out hx (by omega)]
    omega
theorem mixG_bound (h : ∀ x ∈ X, ∀ y ∈ x, 0 ≤ y ∧ y ≤ 20) (i g k : Nat) : 0 ≤ mixG X i g k ∧ mixG X i g k ≤ 20 * (i + 1) := by
  unfold mixG
  split
  · have := gotP_bound h k (i + 1); omega
  · have := gotP_bound h k i; omega
theorem poorR_iff (i : Nat) : ∀ m, poorR O X i m = true ↔ ∃ g, g < m ∧ 0 < fX X i g ∧ gAt O i < (g : Int)
  | 0 => by simp [poorR]
  | m + 1 => by
    rw [poorR, Bool.or_eq_true, poorR_iff i m, Bool.and_eq_true, decide_eq_true_eq, decide_eq_true_eq]
    constructor
    · rintro (⟨g, h1, h2⟩ | h)
      · exact ⟨g, by omega, h2⟩
      · exact ⟨m, by omega, h⟩
    · rintro ⟨g, h1, h2⟩
      rcases Nat.lt_or_ge g m with h | h
      · exact .inl ⟨g, h, h2⟩
      · obtain rfl : g = m := by omega
        exact .inr h2
theorem poorT_iff : ∀ m, poorT n O X m = true ↔ ∃ i, i < m ∧ poorR O X i n = true
  | 0 => by simp [poorT]
  | m + 1 => by
    rw [poorT, Bool.or_eq_true, poorT_iff m]
    constructor
    · rintro (⟨g, h1, h2⟩ | h)
      · exact ⟨g, by omega, h2⟩
      · exact ⟨m, by omega, h⟩
    · rintro ⟨g, h1, h2⟩
      rcases Nat.lt_or_ge g m with h | h
      · exact .inl ⟨g, h, h2⟩
      · obtain rfl : g = m := by omega
        exact .inr h2
theorem sumT_iff : ∀ m, sumT n O X m = true ↔ ∃ i, i < m ∧ sumN (fX X i) n ≠ mAt O i
  | 0 => by simp [sumT]
  | m + 1 => by
    rw [sumT, Bool.or_eq_true, sumT_iff m, decide_eq_true_eq]
    constructor
    · rintro (⟨g, h1, h2⟩ | h)
      · exact ⟨g, by omega, h2⟩
      · exact ⟨m, by omega, by omega⟩
    · rintro ⟨g, h1, h2⟩
      rcases Nat.lt_or_ge g m with h | h
      · exact .inl ⟨g, h, h2⟩
      · obtain rfl : g = m := by omega
        exact .inr (by omega)
theorem overT_iff (M F : Nat → Int) : ∀ m, overT M F m = true ↔ ∃ g, g < m ∧ M g < F g
  | 0 => by simp [overT]
  | m + 1 => by
    rw [overT, Bool.or_eq_true, overT_iff M F m, decide_eq_true_eq]
    constructor
    · rintro (⟨g, h1, h2⟩ | h)
      · exact ⟨g, by omega, h2⟩
      · exact ⟨m, by omega, h⟩
    · rintro ⟨g, h1, h2⟩
      rcases Nat.lt_or_ge g m with h | h
      · exact .inl ⟨g, h, h2⟩
      · obtain rfl : g = m := by omega
        exact .inr h2
theorem gotX_out (h : ∀ x ∈ X, x.length = n) {g : Nat} (hg : n ≤ g) : ∀ i, gotP X i g = 0
  | 0 => rfl
  | i + 1 => by
    show gotP X i g + fX X i g = 0
    rw [gotX_out h hg i]
    unfold fX
    rw [List.getD_eq_getElem?_getD (l := X)]
    cases hx : X[i]? with
    | none => simp
    | some x =>
      have := h x (List.mem_of_getElem? hx)
      rw [Option.getD_some, List.getD_eq_getElem?_getD, List.getElem?_eq_none (by omega)]
      rfl
/-- Beyond the last grade nothing is given. -/
theorem overT_five {S : List Int} (h : ∀ x ∈ X, x.length = S.length) (h5 : S.length ≤ 5) : overT (stockM S) (gotX X) 5 = overT (stockM S) (gotX X) S.length := by
  rw [Bool.eq_iff_iff, overT_iff, overT_iff]
  constructor
  · rintro ⟨g, h1, h2⟩
    rcases Nat.lt_or_ge g S.length with c | c
    · exact ⟨g, c, h2⟩
    · rw [show gotX X g = 0 from gotX_out h c _] at h2
      have : stockM S g = 0 := by unfold stockM; rw [List.getD_eq_getElem?_getD, List.getElem?_eq_none c]; rfl
      omega
  · rintro ⟨g, h1, h2⟩
    exact ⟨g, by omega, h2⟩
end
/-- A fill is right. -/
theorem fillE_right {S P : List Int} {O : List Od} {X : List (List Int)} (h : fillE S P O X = 0) : Sized S.length O X ∧ Gr9.RightF (grO O) (mAt O) (stockM S) O.length S.length (fX X) := by
  unfold fillE at h
  split at h
  · rename_i hn; exact absurd h hn
  split at h
  · cases h
  split at h
  · cases h
  split at h
  · cases h
  rename_i h1 h2 h3 h4
  obtain ⟨he, hs⟩ := sizeE_zero (Classical.not_not.1 h1)
  have hF := fine_of he
  refine ⟨hs, fun i _ g _ => (fX_bound hs.small i g).1, fun i hi g hg hgi => ?_, fun i hi => ?_, fun g hg => ?_⟩
  · have hb := (fX_bound hs.small i g).1
    have : ¬ 0 < fX X i g := fun hp => h2 ((poorT_iff _).2 ⟨i, by rw [hs.len]; exact hi, (poorR_iff i _).2 ⟨g, hg, hp, by
      have hx := List.getElem?_eq_getElem hi
      have := hF.ord _ (List.mem_of_getElem? hx)
      unfold grO at hgi
      rw [gAt_eq hx] at hgi ⊢
      omega⟩⟩)
    omega
  · have : ¬ sumN (fX X i) S.length ≠ mAt O i := fun hn => h3 ((sumT_iff _).2 ⟨i, by rw [hs.len]; exact hi, hn⟩)
    rw [← sumN_pre]
    omega
  · have : ¬ stockM S g < gotX X g := fun hn => h4 ((overT_iff _ _ _).2 ⟨g, hg, hn⟩)
    have h5 : gotX X g = Gr9.pre (fun i => fX X i g) O.length := by
      unfold gotX gotP
      rw [sumN_pre, hs.len]
    omega
theorem right_fillE {S P : List Int} {O : List Od} {X : List (List Int)} (he : shopE S P O = 0) (hs : Sized S.length O X) (h : Gr9.RightF (grO O) (mAt O) (stockM S) O.length S.length (fX X)) : fillE S P O X = 0 := by
  have hF := fine_of he
  unfold fillE
  rw [sizeE_of he hs, if_neg (fun h => h rfl), if_neg, if_neg, if_neg]
  · rw [overT_iff]
    rintro ⟨g, hg, hn⟩
    have h5 : gotX X g = Gr9.pre (fun i => fX X i g) O.length := by
      unfold gotX gotP
      rw [sumN_pre, hs.len]
    have := h.le g hg
    omega
  · rw [sumT_iff]
    rintro ⟨i, hi, hn⟩
    rw [sumN_pre] at hn
    exact hn (h.sum i (by rw [← hs.len]; exact hi))
  · rw [poorT_iff]
    rintro ⟨i, hi, hp⟩
    obtain ⟨g, hg, h1, h2⟩ := (poorR_iff i _).1 hp
    rw [hs.len] at hi
    have hx := List.getElem?_eq_getElem hi
    have h3 := hF.ord _ (List.mem_of_getElem? hx)
    have := h.no i hi g hg (by
      unfold grO
      rw [gAt_eq hx] at h2 ⊢
      omega)
    omega
end Go.Proofs.Ytmfiggbobaihcaa
