/- Plain law: the document's reckoning from behind, of worth and of counts at once, comes to the same as the program's, one after the other. No program. -/
import Derived.Test.YtjmphmnimnbgkaaCountLaw
import Derived.Test.YtjmphmnimnbgkaaPath
namespace Go.Proofs.Ytjmphmnimnbgkaa
open Go.RowKit

/-- The worth of what begins with a sheet of a kind. -/
def nK (ks : List Kd) (i : Nat) (A : Nat → Int) (k : Nat) : Int := (ks.getD k ⟨0, 0, 0⟩).p + A (i + (ks.getD k ⟨0, 0, 0⟩).w.toNat)
/-- One kind at place i. -/
def refStep (ks : List Kd) (i : Nat) (r : (Nat → Int) × (Nat → Int)) (k : Nat) : (Nat → Int) × (Nat → Int) :=
  if r.1 i < nK ks i r.1 k then (upd r.1 i (nK ks i r.1 k), upd (upd r.2 i 0) i (r.2 (i + (ks.getD k ⟨0, 0, 0⟩).w.toNat)))
  else if nK ks i r.1 k = r.1 i then (r.1, upd r.2 i (r.2 i + r.2 (i + (ks.getD k ⟨0, 0, 0⟩).w.toNat))) else r
def refIn (ks : List Kd) (i : Nat) (r : (Nat → Int) × (Nat → Int)) (l : List Nat) : (Nat → Int) × (Nat → Int) := l.foldl (refStep ks i) r
theorem refIn_snoc (ks : List Kd) (i : Nat) (r : (Nat → Int) × (Nat → Int)) (l : List Nat) (k : Nat) : refIn ks i r (l ++ [k]) = refStep ks i (refIn ks i r l) k := by simp [refIn]
def refStart (r : (Nat → Int) × (Nat → Int)) (i : Nat) : (Nat → Int) × (Nat → Int) := (upd r.1 i (r.1 (i + 1)), upd r.2 i (r.2 (i + 1)))
def refAt (L : Nat) (F : Nat → Int) (ks : List Kd) : Nat → (Nat → Int) × (Nat → Int)
  | 0 => (fun _ => 0, upd (fun _ => 0) L 1)
  | n + 1 => refIn ks (L - 1 - n) (refStart (refAt L F ks n) (L - 1 - n)) ((List.range ks.length).filter (canI L F ks (L - 1 - n)))

/-- How many are worth just v. -/
def cntV (ks : List Kd) (i : Nat) (A M : Nat → Int) (l : List Nat) (v : Int) : Int :=
  (if A (i + 1) = v then M (i + 1) else 0) + (l.map fun k => if nK ks i A k = v then M (i + (ks.getD k ⟨0, 0, 0⟩).w.toNat) else 0).sum
theorem cntV_snoc (ks : List Kd) (i : Nat) (A M : Nat → Int) (l : List Nat) (k : Nat) (v : Int) : cntV ks i A M (l ++ [k]) v = cntV ks i A M l v + if nK ks i A k = v then M (i + (ks.getD k ⟨0, 0, 0⟩).w.toNat) else 0 := by
  simp [cntV, List.sum_append, Int.add_assoc]
theorem cntV_zero {ks : List Kd} {i : Nat} {A M : Nat → Int} {l : List Nat} {v : Int} (h0 : A (i + 1) ≠ v) (h : ∀ k ∈ l, nK ks i A k ≠ v) : cntV ks i A M l v = 0 := by
  unfold cntV
  rw [if_neg h0]
  induction l with
  | nil => simp
  | cons k l ih =>
    have := ih (fun k' hk' => h k' (by simp [hk']))
    simp only [List.map_cons, List.sum_cons, if_neg (h k (by simp))]
    omega

section
variable {L : Nat} {F : Nat → Int} {ks : List Kd}
/-- What holds while the kinds at place i are looked at. -/
structure RefOk (ks : List Kd) (i : Nat) (A0 M0 : Nat → Int) (l : List Nat) (r : (Nat → Int) × (Nat → Int)) : Prop where
  worth : r.1 = behindIn ks i (upd A0 i (A0 (i + 1))) l
  oldA : ∀ j, j ≠ i → r.1 j = A0 j
  oldM : ∀ j, j ≠ i → r.2 j = M0 j
  base : A0 (i + 1) ≤ r.1 i
  top : ∀ k ∈ l, nK ks i A0 k ≤ r.1 i
  many : r.2 i = cntV ks i A0 M0 l (r.1 i)
theorem upd_self (A : Nat → Int) (i : Nat) : upd A i (A i) = A := by
  funext j; unfold upd; split
  · rename_i e; rw [e]
  · rfl
theorem upd_upd (A : Nat → Int) (i : Nat) (a b : Int) : upd (upd A i a) i b = upd A i b := by
  funext j; unfold upd; split <;> rfl
theorem RefOk.start (ks : List Kd) (i : Nat) (A0 M0 : Nat → Int) : RefOk ks i A0 M0 [] (refStart (A0, M0) i) := by
  refine ⟨rfl, fun j hj => ?_, fun j hj => ?_, ?_, by simp, ?_⟩
  · simp [refStart, upd, hj]
  · simp [refStart, upd, hj]
  · simp [refStart, upd]
  · simp [refStart, upd, cntV]
theorem RefOk.step (hk : KOk ks) {i : Nat} {A0 M0 : Nat → Int} {l : List Nat} {r : (Nat → Int) × (Nat → Int)} (h : RefOk ks i A0 M0 l r) {k : Nat} (hc : canI L F ks i k = true) : RefOk ks i A0 M0 (l ++ [k]) (refStep ks i r k) := by
  obtain ⟨x, hx, _, hd⟩ := canI_at hc
  have hb := hk.bd hx
  have hne : i + x.w.toNat ≠ i := by omega
  have hn : nK ks i r.1 k = nK ks i A0 k := by unfold nK; rw [hd, h.oldA _ hne]
  have hnx : nK ks i A0 k = x.p + A0 (i + x.w.toNat) := by unfold nK; rw [hd]
  have hw : behindIn ks i (upd A0 i (A0 (i + 1))) (l ++ [k]) = relB r.1 i x := by rw [behindIn_snoc, hd, h.worth]
  have hrel : relB r.1 i x = upd r.1 i (mx (r.1 i) (nK ks i A0 k)) := by
    unfold relB
    rw [h.oldA _ hne, hnx, Int.add_comm x.p]
  have hM : r.2 (i + x.w.toNat) = M0 (i + x.w.toNat) := h.oldM _ hne
  unfold refStep
  rw [hn]
  by_cases h1 : r.1 i < nK ks i A0 k
  · rw [if_pos h1]
    refine ⟨?_, fun j hj => ?_, fun j hj => ?_, ?_, fun k' hk' => ?_, ?_⟩
    · show upd r.1 i _ = _
      rw [hw, hrel]
      unfold mx
      rw [if_pos h1]
    · show upd r.1 i _ j = _
      unfold upd; rw [if_neg hj]; exact h.oldA j hj
    · show upd (upd r.2 i 0) i _ j = _
      unfold upd; rw [if_neg hj, if_neg hj]; exact h.oldM j hj
    · show A0 (i + 1) ≤ upd r.1 i _ i
      unfold upd; rw [if_pos rfl]; have := h.base; omega
    · show nK ks i A0 k' ≤ upd r.1 i _ i
      unfold upd; rw [if_pos rfl]
      rcases List.mem_append.1 hk' with hk' | hk'
      · have := h.top k' hk'; omega
      · rw [List.mem_singleton.1 hk']; exact Int.le_refl _
    · show upd (upd r.2 i 0) i _ i = cntV ks i A0 M0 (l ++ [k]) (upd r.1 i _ i)
      have e1 : ∀ (A : Nat → Int) (v : Int), upd A i v i = v := fun A v => by simp [upd]
      rw [e1, e1, hd, hM, cntV_snoc, cntV_zero (by have := h.base; omega) (fun k' hk' => by have := h.top k' hk'; omega), if_pos rfl, hd]
      omega
  · rw [if_neg h1]
    have hmx : mx (r.1 i) (nK ks i A0 k) = r.1 i := by unfold mx; rw [if_neg h1]
    have hwr : r.1 = behindIn ks i (upd A0 i (A0 (i + 1))) (l ++ [k]) := by rw [hw, hrel, hmx, upd_self]
    have htop : ∀ k' ∈ l ++ [k], nK ks i A0 k' ≤ r.1 i := fun k' hk' => by
      rcases List.mem_append.1 hk' with hk' | hk'
      · exact h.top k' hk'
      · rw [List.mem_singleton.1 hk']; omega
    by_cases h2 : nK ks i A0 k = r.1 i
    · rw [if_pos h2]
      refine ⟨hwr, h.oldA, fun j hj => ?_, h.base, htop, ?_⟩
      · show upd r.2 i _ j = _
        unfold upd; rw [if_neg hj]; exact h.oldM j hj
      · show upd r.2 i _ i = cntV ks i A0 M0 (l ++ [k]) (r.1 i)
        have e1 : ∀ (A : Nat → Int) (v : Int), upd A i v i = v := fun A v => by simp [upd]
        rw [e1, hd, hM, cntV_snoc, if_pos h2, hd, h.many]
    · rw [if_neg h2]
      exact ⟨hwr, h.oldA, h.oldM, h.base, htop, by rw [cntV_snoc, if_neg h2, h.many]; omega⟩
theorem RefOk.all (hk : KOk ks) {i : Nat} {A0 M0 : Nat → Int} : ∀ (l : List Nat) (pre : List Nat) (r : (Nat → Int) × (Nat → Int)), RefOk ks i A0 M0 pre r → (∀ k ∈ l, canI L F ks i k = true) → RefOk ks i A0 M0 (pre ++ l) (refIn ks i r l)
  | [], pre, r, h, _ => by simpa [refIn] using h
  | k :: l, pre, r, h, hl => by
    have := RefOk.all hk l (pre ++ [k]) _ (h.step (L := L) (F := F) hk (hl k (by simp))) (fun k' hk' => hl k' (by simp [hk']))
    simpa [refIn] using this
theorem can_filter (i : Nat) : ∀ k ∈ (List.range ks.length).filter (canI L F ks i), canI L F ks i k = true := fun k hm => by simpa using (List.mem_filter.1 hm).2
theorem refAt_ok (hk : KOk ks) (n : Nat) : RefOk ks (L - 1 - n) (refAt L F ks n).1 (refAt L F ks n).2 ((List.range ks.length).filter (canI L F ks (L - 1 - n))) (refAt L F ks (n + 1)) := by
  have h := RefOk.all (L := L) (F := F) hk ((List.range ks.length).filter (canI L F ks (L - 1 - n))) [] _ (RefOk.start ks (L - 1 - n) (refAt L F ks n).1 (refAt L F ks n).2) (can_filter (L - 1 - n))
  rw [List.nil_append] at h
  exact h
theorem refAt_worth (hk : KOk ks) (n : Nat) : (refAt L F ks n).1 = behindAt L F ks n := by
  induction n with
  | zero => rfl
  | succ n ih =>
    have h := (refAt_ok (L := L) (F := F) hk n).worth
    rw [h, ih]
    rfl
/-- The worths at places that have been looked at stay. -/
theorem behindAt_stay (n m : Nat) (hn : n ≤ m) (hm : m ≤ L) (j : Nat) (hj : L ≤ j + n) : behindAt L F ks m j = behindAt L F ks n j := by
  obtain ⟨d, rfl⟩ := Nat.exists_eq_add_of_le hn
  induction d with
  | zero => rfl
  | succ d ih =>
    rw [← ih (by omega) (by omega)]
    show behindIn ks (L - 1 - (n + d)) (upd (behindAt L F ks (n + d)) (L - 1 - (n + d)) (behindAt L F ks (n + d) (L - 1 - (n + d) + 1))) ((List.range ks.length).filter (canI L F ks (L - 1 - (n + d)))) j = behindAt L F ks (n + d) j
    rw [behindIn_old _ _ _ _ (by omega)]
    unfold upd
    rw [if_neg (by omega)]
theorem manyIn_cnt (hk : KOk ks) {i : Nat} {Bh M : Nat → Int} : ∀ (l : List Nat) (m : Int) (M' : Nat → Int), M' = upd M i m → (∀ k ∈ l, canI L F ks i k = true) →
    manyIn ks i Bh M' l = upd M i (m + (l.map fun k => if nK ks i Bh k = Bh i then M (i + (ks.getD k ⟨0, 0, 0⟩).w.toNat) else 0).sum)
  | [], m, M', e, _ => by simp [manyIn, e]
  | k :: l, m, M', e, hl => by
    subst e
    obtain ⟨x, hx, _, hd⟩ := canI_at (hl k (by simp))
    have hb := hk.bd hx
    have hne : i + x.w.toNat ≠ i := by omega
    show manyIn ks i Bh (if _ then _ else _) l = _
    rw [hd]
    have e1 : upd M i m i = m := by simp [upd]
    have e2 : upd M i m (i + x.w.toNat) = M (i + x.w.toNat) := by unfold upd; rw [if_neg hne]
    have hnk : nK ks i Bh k = x.p + Bh (i + x.w.toNat) := by unfold nK; rw [hd]
    simp only [List.map_cons, List.sum_cons]
    by_cases ht : x.p + Bh (i + x.w.toNat) = Bh i
    · rw [if_pos ht, e1, e2, upd_upd, manyIn_cnt hk l (m + M (i + x.w.toNat)) _ rfl (fun k' hk' => hl k' (by simp [hk'])), if_pos (by rw [hnk]; exact ht), hd, Int.add_assoc]
    · rw [if_neg ht, manyIn_cnt hk l m _ rfl (fun k' hk' => hl k' (by simp [hk'])), if_neg (by rw [hnk]; exact ht), Int.zero_add]
theorem refAt_many (hk : KOk ks) (n : Nat) (hn : n ≤ L) : ∀ j, L ≤ j + n → (refAt L F ks n).2 j = manyAt L F ks (behindAt L F ks L) n j := by
  induction n with
  | zero => intro j _; rfl
  | succ n ih =>
    intro j hj
    have ih := ih (by omega)
    have hR := refAt_ok (L := L) (F := F) hk n
    have hMO := manyAt_ok (L := L) (F := F) hk (behindAt L F ks L) n (by omega)
    obtain ⟨Bh, hBh⟩ : ∃ Bh, behindAt L F ks L = Bh := ⟨_, rfl⟩
    obtain ⟨i, hi⟩ : ∃ i, L - 1 - n = i := ⟨_, rfl⟩
    obtain ⟨M, hM⟩ : ∃ M, manyAt L F ks Bh n = M := ⟨_, rfl⟩
    have hA : ∀ j, L ≤ j + n → (refAt L F ks n).1 j = Bh j := fun j hj => by rw [refAt_worth hk n, ← hBh, behindAt_stay n L (by omega) (Nat.le_refl _) j hj]
    have hAi : (refAt L F ks (n + 1)).1 i = Bh i := by rw [refAt_worth hk (n + 1), ← hBh, behindAt_stay (n + 1) L (by omega) (Nat.le_refl _) i (by omega)]
    show _ = manyIn ks (L - 1 - n) (behindAt L F ks L) _ _ j
    rw [hBh] at ih hMO ⊢
    rw [hM] at ih hMO ⊢
    rw [hi] at hR ⊢
    have hMi : M i = 0 := hMO.no i (by omega)
    have hcan := can_filter (L := L) (F := F) (ks := ks) i
    generalize (List.range ks.length).filter (canI L F ks i) = l at *
    have hst : (if Bh i = Bh (i + 1) then upd M i (M (i + 1)) else M) = upd M i (if Bh i = Bh (i + 1) then M (i + 1) else 0) := by
      by_cases e : Bh i = Bh (i + 1)
      · rw [if_pos e, if_pos e]
      · rw [if_neg e, if_neg e, ← hMi, upd_self]
    rw [hst, manyIn_cnt (L := L) (F := F) hk l _ _ rfl hcan]
    by_cases hji : j = i
    · subst hji
      have e1 : ∀ v, upd M j v j = v := fun v => by simp [upd]
      rw [e1, hR.many, hAi]
      unfold cntV
      rw [hA (j + 1) (by omega), ih (j + 1) (by omega)]
      congr 1
      · by_cases e : Bh j = Bh (j + 1)
        · rw [if_pos e, if_pos e.symm]
        · rw [if_neg e, if_neg (fun h => e h.symm)]
      · congr 1
        apply List.map_congr_left
        intro k hm
        obtain ⟨x, hx, hc, hd⟩ := canI_at (hcan k hm)
        have hb := hk.bd hx
        have hle := (canB_iff.1 hc).1
        unfold nK
        rw [hd, hA _ (by omega), ih _ (by omega)]
    · rw [hR.oldM j hji, ih j (by omega)]
      unfold upd
      rw [if_neg hji]
/-- What the document reckons, of the whole ribbon. -/
theorem ref_worth0 (hk : KOk ks) : (refAt L F ks L).1 = behindAt L F ks L := refAt_worth hk L
theorem ref_many0 (hk : KOk ks) : (refAt L F ks L).2 0 = manyAt L F ks (behindAt L F ks L) L 0 := refAt_many hk L (Nat.le_refl _) 0 (by omega)
end

/-! ### No count is beyond 6 to the power of 24 -/
theorem sum_le {α : Type} (f : α → Int) (c : Int) : ∀ l : List α, (∀ x ∈ l, f x ≤ c) → (l.map f).sum ≤ l.length * c
  | [], _ => by simp
  | x :: l, h => by
    have h1 := sum_le f c l (fun y hy => h y (by simp [hy]))
    have h2 := h x (by simp)
    simp only [List.map_cons, List.sum_cons, List.length_cons]
    have : ((l.length + 1 : Nat) : Int) * c = l.length * c + c := by push_cast; rw [Int.add_mul]; omega
    omega
theorem sum_nn {α : Type} (f : α → Int) : ∀ l : List α, (∀ x ∈ l, 0 ≤ f x) → 0 ≤ (l.map f).sum
  | [], _ => by simp
  | x :: l, h => by
    have h1 := sum_nn f l (fun y hy => h y (by simp [hy]))
    have h2 := h x (by simp)
    simp only [List.map_cons, List.sum_cons]
    omega
theorem cntV_bd {L : Nat} {F : Nat → Int} {ks : List Kd} (hk : KOk ks) {i : Nat} (hi : i < L) {A M : Nat → Int} (hM : ∀ j, i < j → j ≤ L → 0 ≤ M j ∧ M j ≤ 6 ^ (L - j)) {l : List Nat} (hl : ∀ k ∈ l, canI L F ks i k = true) (hlen : l.length ≤ 6) (v : Int) :
    0 ≤ cntV ks i A M l v ∧ cntV ks i A M l v ≤ 6 ^ (L - i) := by
  have hm1 := hM (i + 1) (by omega) (by omega)
  have e1 : L - i = (L - i - 1) + 1 := by omega
  have p1 := pow6_pos (L - i - 1)
  have hs0 : 0 ≤ (l.map fun k => if nK ks i A k = v then M (i + (ks.getD k ⟨0, 0, 0⟩).w.toNat) else 0).sum := by
    refine sum_nn _ l (fun k hm => ?_)
    obtain ⟨x, hx, hc, hd⟩ := canI_at (hl k hm)
    have hb := hk.bd hx
    have hle := (canB_iff.1 hc).1
    rw [hd]
    split
    · exact (hM _ (by omega) (by omega)).1
    · exact Int.le_refl _
  unfold cntV
  rw [show L - (i + 1) = L - i - 1 from by omega] at hm1
  by_cases hb0 : A (i + 1) = v
  · rw [if_pos hb0]
    refine ⟨by omega, ?_⟩
    by_cases h2 : i + 2 ≤ L
    · have p2 := pow6_pos (L - i - 2)
      have hs := sum_le (fun k => if nK ks i A k = v then M (i + (ks.getD k ⟨0, 0, 0⟩).w.toNat) else 0) (6 ^ (L - i - 2)) l (fun k hm => by
        obtain ⟨x, hx, hc, hd⟩ := canI_at (hl k hm)
        have hb := hk.bd hx
        have hle := (canB_iff.1 hc).1
        show (if nK ks i A k = v then M (i + (ks.getD k ⟨0, 0, 0⟩).w.toNat) else 0) ≤ _
        rw [hd]
        split
        · rename_i hv
          have hw2 : x.w ≠ 1 := by
            intro e
            unfold nK at hv
            rw [hd, e] at hv
            simp at hv
            omega
          have hm2 := hM (i + x.w.toNat) (by omega) (by omega)
          have hm3 := pow6_mono (show L - (i + x.w.toNat) ≤ L - i - 2 from by omega)
          omega
        · omega)
      have hlen2 : (l.length : Int) * 6 ^ (L - i - 2) ≤ 6 * 6 ^ (L - i - 2) := Int.mul_le_mul_of_nonneg_right (by omega) (by omega)
      have e2 : (6 : Int) ^ (L - i - 1) = 6 ^ (L - i - 2) * 6 := by rw [show L - i - 1 = (L - i - 2) + 1 from by omega, Int.pow_succ]
      rw [e1, Int.pow_succ]
      omega
    · have hs : (l.map fun k => if nK ks i A k = v then M (i + (ks.getD k ⟨0, 0, 0⟩).w.toNat) else 0).sum ≤ l.length * 0 := sum_le _ 0 l (fun k hm => by
        obtain ⟨x, hx, hc, hd⟩ := canI_at (hl k hm)
        have hb := hk.bd hx
        have hle := (canB_iff.1 hc).1
        show (if nK ks i A k = v then M (i + (ks.getD k ⟨0, 0, 0⟩).w.toNat) else 0) ≤ 0
        rw [hd]
        split
        · rename_i hv
          exfalso
          have hw1 : x.w = 1 := by omega
          unfold nK at hv
          rw [hd, hw1] at hv
          simp at hv
          omega
        · omega)
      rw [e1, Int.pow_succ]
      omega
  · rw [if_neg hb0]
    have hs := sum_le (fun k => if nK ks i A k = v then M (i + (ks.getD k ⟨0, 0, 0⟩).w.toNat) else 0) (6 ^ (L - i - 1)) l (fun k hm => by
      obtain ⟨x, hx, hc, hd⟩ := canI_at (hl k hm)
      have hb := hk.bd hx
      have hle := (canB_iff.1 hc).1
      show (if nK ks i A k = v then M (i + (ks.getD k ⟨0, 0, 0⟩).w.toNat) else 0) ≤ _
      rw [hd]
      split
      · have hm2 := hM (i + x.w.toNat) (by omega) (by omega)
        have hm3 := pow6_mono (show L - (i + x.w.toNat) ≤ L - i - 1 from by omega)
        omega
      · omega)
    have hlen2 : (l.length : Int) * 6 ^ (L - i - 1) ≤ 6 * 6 ^ (L - i - 1) := Int.mul_le_mul_of_nonneg_right (by omega) (by omega)
    rw [e1, Int.pow_succ]
    omega
end Go.Proofs.Ytjmphmnimnbgkaa
