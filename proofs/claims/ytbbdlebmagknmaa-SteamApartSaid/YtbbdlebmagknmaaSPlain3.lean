/- Plain laws: counted back the fewest loads stay; each load of hours with the fewest ones, in order, is from the early one to the late one. No program. -/
import Derived.Test.YtbbdlebmagknmaaSRefE
namespace Go.Proofs.Ytbbdlebmagknmaa
open Go.RowKit Go.Shelf

theorem fillA_mem (L : Nat) : ∀ (f : Nat) (l : List Rg), ∀ p ∈ Fill.fillA Rg.lo Rg.hi L f l, p.1 ∈ l
  | 0, l, p, hp => by simp [Fill.fillA] at hp
  | f + 1, [], p, hp => by simp [Fill.fillA] at hp
  | f + 1, x :: l, p, hp => by
    unfold Fill.fillA at hp
    rcases List.mem_append.1 hp with hp | hp
    · obtain ⟨y, hy, rfl⟩ := List.mem_map.1 hp
      exact (Fill.takeL_sub1 Rg.lo x.hi (x :: l) L).subset hy
    · exact (Fill.takeL_sub Rg.lo x.hi (x :: l) L).subset (fillA_mem L f _ p hp)
theorem pairs_exist {rs : List Rg} {L : Nat} (hr : RsOk rs) (hL : 1 ≤ L) : ∃ ps : List (Rg × Int), (∀ p ∈ ps, (p.1.lo ≤ p.2 ∧ p.2 ≤ p.1.hi) ∧ 0 ≤ p.2 ∧ p.2 ≤ 100) ∧ (∀ q : Rg → Bool, rs.countP q = ps.countP fun p => q p.1) ∧ (Fill.loadsN L (ps.map (·.2)) : Int) = LA rs L 101 := by
  obtain ⟨l, hp, hs⟩ := sorted_of rs
  have hb : ∀ x ∈ l, 0 ≤ x.lo ∧ x.lo ≤ x.hi ∧ x.hi ≤ 100 := fun x hx => hr.2 x (hp.mem_iff.1 hx)
  refine ⟨Fill.fillA Rg.lo Rg.hi L l.length l, fun p hpm => ?_, fun q => ?_, ?_⟩
  · have h1 := Fill.fillA_right Rg.lo Rg.hi L l.length l hs p hpm
    have h2 := hb p.1 (fillA_mem L _ l p hpm)
    omega
  · rw [Fill.fillA_all Rg.lo Rg.hi L hL q l.length l (Nat.le_refl _) (fun x hx => (hb x hx).2.1)]
    exact (hp.countP_eq q).symm
  · rw [Fill.fill_loads Rg.lo Rg.hi L hL l l hb hs (fun _ h => h) (fun _ => rfl) l.length (Nat.le_refl _), ← late_greedy hr hL hp hs l.length (Nat.le_refl _)]
    exact late_len hr hL
theorem la_back_le' {rs : List Rg} {L : Nat} (hr : RsOk rs) (hL : 1 ≤ L) : LA (backP rs) L 101 ≤ LA rs L 101 := by
  obtain ⟨ps, h1, h2, h3⟩ := pairs_exist hr hL
  obtain ⟨v, e1, c1, _⟩ := la_chain (back_ok hr) hL
  have h4 := Fill.hours_chain Rg.lo Rg.hi L hL (backP rs) (ps.map fun p => (backR p.1, 100 - p.2)) (fun p hp => by
    obtain ⟨p', hp', rfl⟩ := List.mem_map.1 hp
    have := h1 p' hp'
    unfold backR
    simp only
    omega) (fun q => by
    unfold backP
    rw [List.countP_map, List.countP_map, h2]
    rfl) c1
  rw [List.map_map] at h4
  have h5 : ps.map ((fun p : Rg × Int => p.2) ∘ fun p => (backR p.1, 100 - p.2)) = (ps.map (·.2)).map fun h => 100 - h := by rw [List.map_map]; rfl
  rw [h5, loads_back] at h4
  rw [e1, ← h3]
  exact_mod_cast h4
/-- **Counted back the fewest loads stay.** -/
theorem la_back' {rs : List Rg} {L : Nat} (hr : RsOk rs) (hL : 1 ≤ L) : LA (backP rs) L 101 = LA rs L 101 := by
  apply Int.le_antisymm (la_back_le' hr hL)
  have h := la_back_le' (back_ok hr) hL
  rwa [back_back] at h
theorem early_len {rs : List Rg} {L : Nat} (hr : RsOk rs) (hL : 1 ≤ L) : ((earlyOf rs L).length : Int) = LA rs L 101 := by
  rw [← la_back' hr hL, ← late_len (back_ok hr) hL]
  unfold earlyOf
  simp

/-! ### Loads in order -/
theorem late_at (A : Nat → Int) (h0 : A 0 = 0) (hm : ∀ j, A j ≤ A (j + 1)) : ∀ (n i : Nat) (t : Int), (Fill.lateP A n)[i]? = some t → ∃ k : Nat, t = k ∧ k < n ∧ A k ≤ (i : Int) ∧ (i : Int) < A (k + 1)
  | 0, i, t, h => by simp [Fill.lateP] at h
  | n + 1, i, t, h => by
    have hl := lateP_len A h0 hm n
    have hn := hm n
    rw [lateP_succ] at h
    by_cases hi : i < (Fill.lateP A n).length
    · rw [List.getElem?_append_left hi] at h
      obtain ⟨k, e, hk, h1, h2⟩ := late_at A h0 hm n i t h
      exact ⟨k, e, by omega, h1, h2⟩
    · rw [List.getElem?_append_right (by omega)] at h
      have h2 := (List.getElem?_eq_some_iff.1 h).1
      rw [List.length_replicate] at h2
      rw [List.getElem?_replicate, if_pos h2] at h
      simp at h
      exact ⟨n, h.symm, by omega, by omega, by omega⟩
theorem mono_of {A : Nat → Int} (hm : ∀ j, A j ≤ A (j + 1)) {i j : Nat} (h : i ≤ j) : A i ≤ A j := by
  obtain ⟨d, rfl⟩ := Nat.exists_eq_add_of_le h
  induction d with
  | zero => exact Int.le_refl _
  | succ d ih => exact Int.le_trans (ih (by omega)) (hm (i + d))
/-- How many loads there are at hours below one. -/
def ordA (L : Nat) (hs : List Int) (j : Nat) : Int := (((List.range j).map fun t : Nat => Fill.upN (hs.countP fun h => decide (h = (t : Int))) L).sum : Nat)
/-- The loads of hours, in order. -/
def orderOf (L : Nat) (hs : List Int) : List Int := Fill.lateP (ordA L hs) 101
theorem ord_zero (L : Nat) (hs : List Int) : ordA L hs 0 = 0 := rfl
theorem ord_succ (L : Nat) (hs : List Int) (j : Nat) : ordA L hs (j + 1) = ordA L hs j + (Fill.upN (hs.countP fun h => decide (h = (j : Int))) L : Nat) := by
  unfold ordA
  rw [List.range_succ, List.map_append, List.sum_append]
  simp
theorem ord_mono (L : Nat) (hs : List Int) (j : Nat) : ordA L hs j ≤ ordA L hs (j + 1) := by rw [ord_succ]; omega
theorem ord_all (L : Nat) (hL : 1 ≤ L) (hs : List Int) : ordA L hs 101 = loadsP (L : Int) hs := (loadsP_nat L hL hs).symm
theorem range_if (f : Nat → Nat) (j : Nat) : ∀ n, j ≤ n → ((List.range n).map fun t => if t < j then f t else 0).sum = ((List.range j).map f).sum
  | 0, h => by obtain rfl : j = 0 := by omega
               rfl
  | n + 1, h => by
    by_cases e : j = n + 1
    · subst e
      congr 1
      exact List.map_congr_left fun t ht => by rw [if_pos (List.mem_range.1 ht)]
    · rw [List.range_succ, List.map_append, List.sum_append, range_if f j n (by omega)]
      simp
      omega
theorem ord_upto (L : Nat) (hs : List Int) {j : Nat} (hj : j ≤ 101) : ordA L hs j = (Fill.upTo L hs ((j : Int) - 1) : Nat) := by
  unfold ordA Fill.upTo
  rw [← range_if _ j 101 hj]
  congr 2
  refine List.map_congr_left fun t _ => ?_
  by_cases h : t < j
  · rw [if_pos h, if_pos (by omega)]
  · rw [if_neg h, if_neg (by omega)]
theorem ord_back (L : Nat) (hs : List Int) : ∀ j : Nat, j ≤ 101 → ordA L (hs.map fun h => 100 - h) j = ordA L hs 101 - ordA L hs (101 - j)
  | 0, _ => by rw [ord_zero]; simp
  | j + 1, hj => by
    have h1 := ord_back L hs j (by omega)
    have h2 := ord_succ L hs (100 - j)
    rw [show 100 - j + 1 = 101 - j by omega] at h2
    rw [ord_succ, h1, show 101 - (j + 1) = 100 - j by omega, h2]
    have h3 : (hs.map fun h => 100 - h).countP (fun h => decide (h = (j : Int))) = hs.countP fun h => decide (h = ((100 - j : Nat) : Int)) := by
      rw [List.countP_map]
      refine List.countP_congr fun h _ => ?_
      simp only [Function.comp, decide_eq_true_eq]
      omega
    rw [h3]
    omega
/-- Right hours have at least the least loads up to each hour. -/
theorem ord_ge {rs : List Rg} {L : Nat} {hs : List Int} (hr : RsOk rs) (hL : 1 ≤ L) (hlen : hs.length = rs.length) (hok : (hs.zip rs).any wrongB = false) {j : Nat} (hj : j ≤ 101) : LA rs L j ≤ ordA L hs j := by
  obtain ⟨v, e1, c1, _⟩ := la_at hr hL j
  have hf : (rs.zip hs).map (·.1) = rs := List.map_fst_zip (by omega)
  have hsn : (rs.zip hs).map (·.2) = hs := List.map_snd_zip (by omega)
  have h1 := Fill.hours_upto Rg.lo Rg.hi L hL rs (rs.zip hs) (fun p hp => by
    obtain ⟨i, hi⟩ := List.getElem?_of_mem hp
    obtain ⟨h1, h2⟩ := List.getElem?_zip_eq_some.1 hi
    have h3 := hr.2 p.1 (List.mem_of_getElem? h1)
    have h4 := hours_in hok i p.2 p.1 h2 h1
    exact ⟨h4, by omega, by omega⟩) (fun q => by
    conv => lhs; rw [← hf]
    rw [List.countP_map]; rfl) c1
  rw [hsn] at h1
  rw [ord_upto L hs hj, e1]
  exact_mod_cast h1
/-- **Each load, in order, is from the early one to the late one.** -/
theorem order_between {rs : List Rg} {L : Nat} {hs : List Int} (hr : RsOk rs) (hL : 1 ≤ L) (hlen : hs.length = rs.length) (hok : (hs.zip rs).any wrongB = false) (hv : loadsP (L : Int) hs = LA rs L 101) {i : Nat} {s a b : Int} (hs1 : (orderOf L hs)[i]? = some s) (ha : (earlyOf rs L)[i]? = some a) (hb : (lateOf rs L)[i]? = some b) : a ≤ s ∧ s ≤ b := by
  obtain ⟨k, rfl, hk, k1, k2⟩ := late_at _ (ord_zero L hs) (ord_mono L hs) _ _ _ hs1
  constructor
  · unfold earlyOf at ha
    rw [List.getElem?_map] at ha
    obtain ⟨t, ht, rfl⟩ := Option.map_eq_some_iff.1 ha
    have hil : i < (lateOf (backP rs) L).length := by
      have := (List.getElem?_eq_some_iff.1 ht).1
      simpa using this
    rw [List.getElem?_reverse hil] at ht
    have hln := late_len (back_ok hr) hL
    rw [la_back' hr hL] at hln
    obtain ⟨m, rfl, hm, m1, m2⟩ := late_at _ (la_zero _ _) (la_mono1 _ _) _ _ _ ht
    have h1 := ord_ge (hs := hs.map fun h => 100 - h) (back_ok hr) hL (by simp [backP, hlen]) (hours_back hok) (show m + 1 ≤ 101 by omega)
    rw [ord_back L hs (m + 1) (by omega), ord_all L hL, hv, show 101 - (m + 1) = 100 - m by omega] at h1
    apply Classical.byContradiction
    intro hno
    have h2 := mono_of (ord_mono L hs) (show k + 1 ≤ 100 - m by omega)
    omega
  · obtain ⟨m, rfl, hm, m1, m2⟩ := late_at _ (la_zero _ _) (la_mono1 _ _) _ _ _ hb
    have h1 := ord_ge hr hL hlen hok (show m + 1 ≤ 101 by omega)
    apply Classical.byContradiction
    intro hno
    have h2 := mono_of (ord_mono L hs) (show m + 1 ≤ k by omega)
    omega
theorem order_len {rs : List Rg} {L : Nat} {hs : List Int} (hL : 1 ≤ L) (hv : loadsP (L : Int) hs = LA rs L 101) : ((orderOf L hs).length : Int) = LA rs L 101 := by
  unfold orderOf
  rw [lateP_len _ (ord_zero L hs) (ord_mono L hs), ord_all L hL, hv]
theorem early_sorted {rs : List Rg} {L : Nat} (hr : RsOk rs) (hL : 1 ≤ L) : (earlyOf rs L).Pairwise (· ≤ ·) := by
  unfold earlyOf
  rw [List.pairwise_map, List.pairwise_reverse]
  exact (late_sorted (back_ok hr) hL).imp fun h => by omega
theorem early_is {L : Nat} {rs : List Rg} (hy : yardE (L : Int) rs = 0) : earlyV (L : Int) rs = earlyOf rs L := by unfold earlyV; rw [if_pos hy, Int.toNat_natCast]; rfl
theorem late_is {L : Nat} {rs : List Rg} (hy : yardE (L : Int) rs = 0) : lateV (L : Int) rs = lateOf rs L := by unfold lateV; rw [if_pos hy, Int.toNat_natCast]; rfl
end Go.Proofs.Ytbbdlebmagknmaa
