/- Plain: lists of orders that are refused, level by level and branch by branch. -/
import Derived.Test.YtmfiggbobaihcaaGFillP
namespace Go.Proofs.Ytmfiggbobaihcaa

/-- The order behind the last one of a list. -/
def fromL (l : List Int) : Nat := match l.getLast? with | none => 0 | some x => x.toNat + 1
/-- A list with one order more, from one on. -/
def moreL (m : Nat) (l : List Int) (f : Nat) : List (List Int) := (List.range' f (m - f)).map fun i : Nat => l ++ [(i : Int)]
def nextL (m : Nat) (l : List Int) : List (List Int) := moreL m l (fromL l)
/-- All lists of so many orders. -/
def levL (m : Nat) : Nat → List (List Int)
  | 0 => [[]]
  | k + 1 => (levL m k).flatMap (nextL m)
/-- All lists that begin with one, and have so many orders more, from one on. -/
def desL (m : Nat) : Nat → List Int → Nat → List (List Int)
  | 0, l, _ => [l]
  | k + 1, l, f => (List.range' f (m - f)).flatMap fun i : Nat => desL m k (l ++ [(i : Int)]) (i + 1)
theorem fromL_app (l : List Int) (i : Nat) : fromL (l ++ [(i : Int)]) = i + 1 := by simp [fromL]
theorem flatMap_one {α β : Type} (f : α → β) (l : List α) : (l.flatMap fun x => [f x]) = l.map f := by
  induction l with
  | nil => rfl
  | cons x l ih => rw [List.flatMap_cons, ih]; rfl
theorem desL_next (m : Nat) : ∀ (k : Nat) (l : List Int) (f : Nat), fromL l = f → (desL m k l f).flatMap (nextL m) = desL m (k + 1) l f
  | 0, l, f, hf => by
    show [l].flatMap (nextL m) = (List.range' f (m - f)).flatMap fun i : Nat => [l ++ [(i : Int)]]
    rw [flatMap_one]
    simp [nextL, moreL, hf]
  | k + 1, l, f, hf => by
    show ((List.range' f (m - f)).flatMap fun i : Nat => desL m k (l ++ [(i : Int)]) (i + 1)).flatMap (nextL m) = (List.range' f (m - f)).flatMap fun i : Nat => desL m (k + 1) (l ++ [(i : Int)]) (i + 1)
    rw [List.flatMap_assoc]
    congr 1
    funext i
    exact desL_next m k _ _ (fromL_app l i)
theorem levL_des (m : Nat) : ∀ k, levL m k = desL m k [] 0
  | 0 => rfl
  | k + 1 => by
    show (levL m k).flatMap (nextL m) = _
    rw [levL_des m k, desL_next m k [] 0 rfl]
/-- What is known of a list of refused orders. -/
structure RefL (m k : Nat) (l : List Int) : Prop where
  len : l.length = k
  inn : ∀ x ∈ l, 0 ≤ x ∧ x < m
  up : l.Pairwise (· < ·)
theorem RefL.from_le {m k : Nat} {l : List Int} (h : RefL m k l) : fromL l ≤ m := by
  unfold fromL
  cases hl : l.getLast? with
  | none => simp
  | some x =>
    have := h.inn x (List.mem_of_getLast? hl)
    show x.toNat + 1 ≤ m
    omega
theorem RefL.last {m k : Nat} {l : List Int} (h : RefL m k l) {x : Int} (hx : x ∈ l) : x < fromL l := by
  unfold fromL
  cases hl : l.getLast? with
  | none => rw [List.getLast?_eq_none_iff.1 hl] at hx; cases hx
  | some y =>
    obtain ⟨l', rfl⟩ := List.getLast?_eq_some_iff.1 hl
    have hy := h.inn y (by simp)
    show x < ((y.toNat + 1 : Nat) : Int)
    rcases List.mem_append.1 hx with h1 | h1
    · have := (List.pairwise_append.1 h.up).2.2 x h1 y (by simp)
      omega
    · obtain rfl : x = y := by simpa using h1
      omega
theorem RefL.more {m k : Nat} {l : List Int} (h : RefL m k l) {i : Nat} (h1 : fromL l ≤ i) (h2 : i < m) : RefL m (k + 1) (l ++ [(i : Int)]) := by
  refine ⟨by simp [h.len], fun x hx => ?_, List.pairwise_append.2 ⟨h.up, by simp, fun x hx y hy => ?_⟩⟩
  · rcases List.mem_append.1 hx with hx | hx
    · exact h.inn x hx
    · obtain rfl : x = (i : Int) := by simpa using hx
      omega
  · obtain rfl : y = (i : Int) := by simpa using hy
    have := h.last hx
    omega
theorem levL_is (m : Nat) : ∀ k, ∀ l ∈ levL m k, RefL m k l
  | 0, l, h => by
    obtain rfl : l = [] := by simpa [levL] using h
    exact ⟨rfl, by simp, List.Pairwise.nil⟩
  | k + 1, l, h => by
    obtain ⟨l', hl', h⟩ := List.mem_flatMap.1 h
    simp only [nextL, moreL, List.mem_map, List.mem_range'_1] at h
    obtain ⟨i, hi, rfl⟩ := h
    have h1 := levL_is m k l' hl'
    exact h1.more hi.1 (by have := h1.from_le; omega)
theorem levL_has (m : Nat) : ∀ k, ∀ l, RefL m k l → l ∈ levL m k
  | 0, l, h => by
    have := List.length_eq_zero_iff.1 h.len
    subst this
    simp [levL]
  | k + 1, l, h => by
    obtain ⟨l', x, rfl⟩ : ∃ l' x, l = l' ++ [x] := by
      rcases List.eq_nil_or_concat l with rfl | ⟨l', x, rfl⟩
      · exact absurd h.len (by simp)
      · exact ⟨l', x, by simp⟩
    have hx := h.inn x (by simp)
    have h1 : RefL m k l' := ⟨by have := h.len; simp at this; omega, fun y hy => h.inn y (by simp [hy]), (List.pairwise_append.1 h.up).1⟩
    obtain ⟨i, rfl⟩ : ∃ i : Nat, x = (i : Int) := ⟨x.toNat, by omega⟩
    refine List.mem_flatMap.2 ⟨l', levL_has m k l' h1, ?_⟩
    simp only [nextL, moreL, List.mem_map, List.mem_range'_1]
    refine ⟨i, ⟨?_, ?_⟩, rfl⟩
    · unfold fromL
      cases hl : l'.getLast? with
      | none => simp
      | some y =>
        have hy := List.mem_of_getLast? hl
        have h2 := (List.pairwise_append.1 h.up).2.2 y hy (i : Int) (by simp)
        have h3 := h1.inn y hy
        show y.toNat + 1 ≤ i
        omega
    · have := h1.from_le
      have h2 : fromL l' ≤ m := this
      omega
theorem levL_size (m : Nat) : ∀ k, (levL m k).length ≤ m ^ k
  | 0 => by simp [levL]
  | k + 1 => by
    show ((levL m k).flatMap (nextL m)).length ≤ _
    have h1 : ∀ L : List (List Int), (L.flatMap (nextL m)).length ≤ m * L.length := by
      intro L
      induction L with
      | nil => simp
      | cons l L ih =>
        rw [List.flatMap_cons, List.length_append, List.length_cons, Nat.mul_add]
        have : (nextL m l).length ≤ m := by simp only [nextL, moreL, List.length_map, List.length_range']; omega
        omega
    refine Nat.le_trans (h1 _) ?_
    rw [Nat.pow_succ, Nat.mul_comm]
    exact Nat.mul_le_mul_right m (levL_size m k)
/-- All orders. -/
def allL (m : Nat) : List Int := (List.range m).map fun i : Nat => (i : Int)
theorem allL_is {m k : Nat} (h : k ≤ m) : RefL m k (allL k) := by
  refine ⟨by simp [allL], fun x hx => ?_, ?_⟩
  · simp only [allL, List.mem_map, List.mem_range] at hx
    obtain ⟨i, hi, rfl⟩ := hx
    omega
  · unfold allL
    rw [List.pairwise_map]
    exact List.pairwise_lt_range.imp fun h => by omega
theorem levL_some {m k : Nat} (h : k ≤ m) : levL m k ≠ [] := List.ne_nil_of_mem (levL_has m k _ (allL_is h))
/-- The orders but some can be filled. -/
def okR (n : Nat) (O : List Od) (M : Nat → Int) (l : List Int) : Bool := canB n (woO O l) M
theorem woT_all (O : List Od) : ∀ i, i ≤ O.length → woT O (allL O.length) i = []
  | 0, _ => rfl
  | i + 1, h => by
    unfold woT
    rw [woT_all O i (by omega), if_pos]
    · rfl
    · rw [List.contains_iff_mem]
      simp only [allL, List.mem_map, List.mem_range]
      exact ⟨i, by omega, rfl⟩
theorem okR_all {n : Nat} {O : List Od} {M : Nat → Int} (hM : ∀ j, 0 ≤ M j) : okR n O M (allL O.length) = true := by
  unfold okR woO
  rw [woT_all O _ (Nat.le_refl _), canB_iff]
  intro g _
  unfold shortI askI
  rw [sumN_pre]
  have := Gr9.pre_nonneg hM (g + 1)
  simp
  omega
/-- The first list of a level that will do. -/
def findR (n : Nat) (O : List Od) (M : Nat → Int) (k : Nat) : Option (List Int) := (levL O.length k).find? (okR n O M)
/-- The orders that are refused. -/
def refR (n : Nat) (O : List Od) (M : Nat → Int) : List Int := ((List.range (O.length + 1)).findSome? (findR n O M)).getD []
theorem findSome_at {α : Type} {f : Nat → Option α} {n i : Nat} {x : α} (hi : i < n) (hx : f i = some x) (hn : ∀ j, j < i → f j = none) : (List.range n).findSome? f = some x := by
  rw [show n = i + (n - i) by omega, List.range_add, List.findSome?_append]
  have h1 : (List.range i).findSome? f = none := List.findSome?_eq_none_iff.2 fun j hj => hn j (List.mem_range.1 hj)
  rw [h1]
  obtain ⟨d, hd⟩ : ∃ d, n - i = d + 1 := ⟨n - i - 1, by omega⟩
  rw [hd, List.range_succ_eq_map]
  simp [hx]
theorem refR_at {n : Nat} {O : List Od} {M : Nat → Int} {k : Nat} {l : List Int} (hk : k ≤ O.length) (hx : findR n O M k = some l) (hn : ∀ j, j < k → findR n O M j = none) : refR n O M = l := by
  unfold refR
  rw [findSome_at (by omega) hx hn]
  rfl
theorem findR_all {n : Nat} {O : List Od} {M : Nat → Int} (hM : ∀ j, 0 ≤ M j) : ∃ l, findR n O M O.length = some l := by
  cases h : findR n O M O.length with
  | some l => exact ⟨l, rfl⟩
  | none =>
    have h1 := List.find?_eq_none.1 h _ (levL_has _ _ _ (allL_is (Nat.le_refl _)))
    rw [okR_all hM] at h1
    exact absurd rfl h1
/-- What is known of the orders that are refused. -/
theorem refR_is {n : Nat} {O : List Od} {M : Nat → Int} (hM : ∀ j, 0 ≤ M j) : ∃ k, k ≤ O.length ∧ RefL O.length k (refR n O M) ∧ okR n O M (refR n O M) = true ∧ ∀ l k', RefL O.length k' l → okR n O M l = true → k ≤ k' := by
  obtain ⟨l0, h0⟩ := findR_all (n := n) (O := O) hM
  have key : ∀ (d k : Nat), k + d = O.length → (∀ j, j < k → findR n O M j = none) → ∃ k l, k ≤ O.length ∧ findR n O M k = some l ∧ ∀ j, j < k → findR n O M j = none := by
    intro d
    induction d with
    | zero => intro k hk hn; obtain rfl : k = O.length := by omega
              exact ⟨_, l0, Nat.le_refl _, h0, hn⟩
    | succ d ih =>
      intro k hk hn
      cases h : findR n O M k with
      | some l => exact ⟨k, l, by omega, h, hn⟩
      | none =>
        refine ih (k + 1) (by omega) fun j hj => ?_
        rcases Nat.lt_or_ge j k with h1 | h1
        · exact hn j h1
        · obtain rfl : j = k := by omega
          exact h
  obtain ⟨k, l, hk, hl, hn⟩ := key O.length 0 (by omega) (fun j hj => by omega)
  rw [refR_at hk hl hn]
  refine ⟨k, hk, levL_is _ _ _ (List.mem_of_find?_eq_some hl), List.find?_some hl, fun l' k' h1 h2 => ?_⟩
  rcases Nat.lt_or_ge k' k with h3 | h3
  · have h4 := List.find?_eq_none.1 (hn k' h3) l' (levL_has _ _ _ h1)
    exact absurd h2 h4
  · exact h3
end Go.Proofs.Ytmfiggbobaihcaa
