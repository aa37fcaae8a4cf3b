/- Plain law: as many best cuts keep a place free as those of the one part times those of the other one: the document's word of when a place is parted is the program's. No program. -/
import Derived.Test.YtjmphmnimnbgkaaPath
import Derived.Test.YtjmphmnimnbgkaaParted
namespace Go.Proofs.Ytjmphmnimnbgkaa
open Go.RowKit

/-! ### Sums -/
theorem sum_cmp {α : Type} (f g : α → Int) : ∀ l : List α, (∀ x ∈ l, f x ≤ g x) → (l.map f).sum ≤ (l.map g).sum ∧ ((l.map f).sum < (l.map g).sum ↔ ∃ x ∈ l, f x < g x)
  | [], _ => by simp
  | x :: l, h => by
    obtain ⟨h1, h2⟩ := sum_cmp f g l (fun y hy => h y (by simp [hy]))
    have h3 := h x (by simp)
    simp only [List.map_cons, List.sum_cons, List.mem_cons, exists_eq_or_imp]
    refine ⟨by omega, ?_⟩
    rw [← h2]
    omega
theorem sum_filter {α : Type} (c : α → Bool) (f : α → Int) : ∀ l : List α, ((l.filter c).map f).sum = (l.map fun x => if c x then f x else 0).sum
  | [] => rfl
  | x :: l => by
    have ih := sum_filter c f l
    cases h : c x with
    | true => rw [List.filter_cons_of_pos h]; simp only [List.map_cons, List.sum_cons, h, if_true, ih]
    | false => rw [List.filter_cons_of_neg (by simp [h])]; simp only [List.map_cons, List.sum_cons, h, ih]; simp
theorem sum_zero {α : Type} : ∀ l : List α, (l.map fun _ => (0 : Int)).sum = 0
  | [] => rfl
  | x :: l => by simp only [List.map_cons, List.sum_cons, sum_zero l]; omega
theorem sum_mul {α : Type} (f : α → Int) (c : Int) : ∀ l : List α, (l.map f).sum * c = (l.map fun x => f x * c).sum
  | [] => by simp
  | x :: l => by simp only [List.map_cons, List.sum_cons, Int.add_mul, sum_mul f c l]

/-! ### The counts -/
structure Cnt (L : Nat) (F : Nat → Int) (ks : List Kd) (Bh M : Nat → Int) : Prop where
  one : M L = 1
  at_ : ∀ i, i < L → M i = cntV ks i Bh M ((List.range ks.length).filter (canI L F ks i)) (Bh i)
theorem cntV_congr {L : Nat} {F : Nat → Int} {ks : List Kd} (hk : KOk ks) {i : Nat} (hi : i < L) {A A' M M' : Nat → Int} {l : List Nat} (hl : ∀ k ∈ l, canI L F ks i k = true) (hA : ∀ j, i < j → j ≤ L → A j = A' j) (hM : ∀ j, i < j → j ≤ L → M j = M' j) (v : Int) : cntV ks i A M l v = cntV ks i A' M' l v := by
  unfold cntV
  rw [hA (i + 1) (by omega) (by omega), hM (i + 1) (by omega) (by omega)]
  congr 2
  apply List.map_congr_left
  intro k hm
  obtain ⟨x, hx, hc, hd⟩ := canI_at (hl k hm)
  have hb := hk.bd hx
  have hle := (canB_iff.1 hc).1
  unfold nK
  rw [hd, hA _ (by omega) (by omega), hM _ (by omega) (by omega)]
section
variable {L : Nat} {F : Nat → Int} {ks : List Kd}
theorem refAt_stay1 (hk : KOk ks) (n m : Nat) (hn : n ≤ m) (hm : m ≤ L) (j : Nat) (hj : L ≤ j + n) : (refAt L F ks m).1 j = (refAt L F ks n).1 j := by
  rw [refAt_worth hk, refAt_worth hk]; exact behindAt_stay n m hn hm j hj
theorem refAt_stay2 (hk : KOk ks) (n m : Nat) (hn : n ≤ m) (hm : m ≤ L) (j : Nat) (hj : L ≤ j + n) : (refAt L F ks m).2 j = (refAt L F ks n).2 j := by
  obtain ⟨d, rfl⟩ := Nat.exists_eq_add_of_le hn
  induction d with
  | zero => rfl
  | succ d ih =>
    rw [← ih (by omega) (by omega)]
    exact (refAt_ok (L := L) (F := F) hk (n + d)).oldM j (by omega)
theorem cnt_ref (hk : KOk ks) : Cnt L F ks (behindAt L F ks L) (refAt L F ks L).2 := by
  refine ⟨?_, fun i hi => ?_⟩
  · rw [refAt_stay2 hk 0 L (by omega) (Nat.le_refl _) L (by omega)]
    show upd (fun _ => (0 : Int)) L 1 L = 1
    simp [upd]
  · obtain ⟨n, hn⟩ : ∃ n, L - 1 - i = n := ⟨_, rfl⟩
    have e : L - 1 - n = i := by omega
    have h := (refAt_ok (L := L) (F := F) hk n).many
    rw [e] at h
    rw [refAt_stay2 hk (n + 1) L (by omega) (Nat.le_refl _) i (by omega), h, ← refAt_worth hk L, refAt_stay1 hk (n + 1) L (by omega) (Nat.le_refl _) i (by omega)]
    exact cntV_congr hk hi (can_filter (L := L) (F := F) i) (fun j h1 h2 => (refAt_stay1 hk n L (by omega) (Nat.le_refl _) j (by omega)).symm) (fun j h1 h2 => (refAt_stay2 hk n L (by omega) (Nat.le_refl _) j (by omega)).symm) _
/-- The count, as a sum over all kinds. -/
def tieT (L : Nat) (F : Nat → Int) (ks : List Kd) (Bh : Nat → Int) (i k : Nat) : Bool := canI L F ks i k && decide (nK ks i Bh k = Bh i)
theorem Cnt.sum {Bh M : Nat → Int} (h : Cnt L F ks Bh M) {i : Nat} (hi : i < L) :
    M i = (if Bh (i + 1) = Bh i then M (i + 1) else 0) + ((List.range ks.length).map fun k => if tieT L F ks Bh i k then M (i + (ks.getD k ⟨0, 0, 0⟩).w.toNat) else 0).sum := by
  rw [h.at_ i hi]
  unfold cntV
  rw [sum_filter]
  congr 2
  apply List.map_congr_left
  intro k _
  unfold tieT
  cases h1 : canI L F ks i k with
  | false => simp
  | true => simp
theorem Cnt.pos (hk : KOk ks) {Bh M : Nat → Int} (h : Cnt L F ks Bh M) (hF : From L F ks Bh) : ∀ d i, d + i = L → 1 ≤ M i := by
  intro d
  induction d using Nat.strongRecOn with
  | _ d ih =>
    intro i hdi
    by_cases hi : i < L
    · rw [h.sum hi]
      have hnn : ∀ k ∈ List.range ks.length, (0 : Int) ≤ if tieT L F ks Bh i k then M (i + (ks.getD k ⟨0, 0, 0⟩).w.toNat) else 0 := by
        intro k _
        split
        · rename_i ht
          unfold tieT at ht
          simp only [Bool.and_eq_true] at ht
          obtain ⟨x, hx, hc, hd⟩ := canI_at ht.1
          have hb := hk.bd hx
          have hle := (canB_iff.1 hc).1
          rw [hd]
          have := ih (L - (i + x.w.toNat)) (by omega) (i + x.w.toNat) (by omega)
          omega
        · exact Int.le_refl _
      have hs := sum_nn _ _ hnn
      have hw := ih (L - (i + 1)) (by omega) (i + 1) (by omega)
      have key : ∀ e v, Way L F ks i e v → e = L → v = Bh i → 1 ≤ (if Bh (i + 1) = Bh i then M (i + 1) else 0) + ((List.range ks.length).map fun k => if tieT L F ks Bh i k then M (i + (ks.getD k ⟨0, 0, 0⟩).w.toNat) else 0).sum := by
        intro e v hwy he hv
        cases hwy with
        | nil => omega
        | waste _ _ _ hl hr =>
          rw [he] at hr
          have h1 := hF.le hr
          have h2 := hF.waste i hi
          have h3 := hF.zero
          rw [if_pos (by omega)]
          omega
        | sheet _ _ k x v' hx hc hr =>
          rw [he] at hr
          have h1 := hF.le hr
          have h2 := hF.sheet i k x hx hc
          have h3 := hF.zero
          have hb := hk.bd hx
          have hle := (canB_iff.1 hc).1
          have hgd : ks.getD k ⟨0, 0, 0⟩ = x := by simp [List.getD, hx]
          have ht : tieT L F ks Bh i k = true := by
            unfold tieT nK canI
            rw [hx, hgd]
            simp only [hc, Bool.true_and, decide_eq_true_eq]
            omega
          have hM := ih (L - (i + x.w.toNat)) (by omega) (i + x.w.toNat) (by omega)
          have hkl := (List.getElem?_eq_some_iff.1 hx).1
          have hcmp := (sum_cmp (fun _ => (0 : Int)) _ (List.range ks.length) hnn).2
          have h0 := sum_zero (List.range ks.length)
          rw [h0] at hcmp
          have := hcmp.2 ⟨k, List.mem_range.2 hkl, by rw [if_pos ht, hgd]; omega⟩
          split <;> omega
      exact key L _ (hF.way i (by omega)) rfl rfl
    · have e : i = L := by omega
      rw [e, h.one]; omega
end
/-! ### The part behind a place -/
theorem canI_eq {L L' : Nat} {F F' : Nat → Int} {ks : List Kd} {i i' : Nat} (h : ∀ x, x ∈ ks → canB L' F' x i' = canB L F x i) (k : Nat) : canI L' F' ks i' k = canI L F ks i k := by
  unfold canI
  cases hx : ks[k]? with
  | none => rfl
  | some x => exact h x (List.mem_of_getElem? hx)
section
variable {L p : Nat} {F F2 : Nat → Int} {ks : List Kd}
theorem way_up (hp : p ≤ L) (hC : ∀ i x, x ∈ ks → canB (L - p) F2 x i = canB L F x (p + i)) {i j : Nat} {v : Int} (h : Way (L - p) F2 ks i j v) : Way L F ks (p + i) (p + j) v := by
  induction h with
  | nil i => exact .nil _
  | waste i e v hl _ ih => exact .waste _ _ _ (by omega) (by rw [Nat.add_assoc]; exact ih)
  | sheet i e k x v hx hc _ ih => exact .sheet _ _ k x _ hx (by rw [← hC i x (List.mem_of_getElem? hx)]; exact hc) (by rw [Nat.add_assoc]; exact ih)
theorem way_down (hp : p ≤ L) (hC : ∀ i x, x ∈ ks → canB (L - p) F2 x i = canB L F x (p + i)) {i' j' : Nat} {v : Int} (h : Way L F ks i' j' v) : ∀ i j, i' = p + i → j' = p + j → Way (L - p) F2 ks i j v := by
  induction h with
  | nil i' => intro i j h1 h2; have : i = j := by omega
              subst this; exact .nil _
  | waste i' e v hl _ ih => intro i j h1 h2; exact .waste _ _ _ (by omega) (ih (i + 1) j (by omega) h2)
  | sheet i' e k x v hx hc _ ih =>
    intro i j h1 h2
    exact .sheet _ _ k x _ hx (by rw [hC i x (List.mem_of_getElem? hx), ← h1]; exact hc) (ih (i + x.w.toNat) j (by omega) h2)
theorem part2_worth (hp : p ≤ L) (hC : ∀ i x, x ∈ ks → canB (L - p) F2 x i = canB L F x (p + i)) {Bh B2 : Nat → Int} (h : From L F ks Bh) (h2 : From (L - p) F2 ks B2) (i : Nat) (hi : i ≤ L - p) : B2 i = Bh (p + i) := by
  have a1 := h.le (way_up hp hC (h2.way i hi))
  have a2 := h2.le (way_down hp hC (h.way (p + i) (by omega)) i (L - p) rfl (by omega))
  rw [show p + (L - p) = L from by omega] at a1
  have a3 := h.zero
  have a4 := h2.zero
  omega
theorem part2_many (hk : KOk ks) (hp : p ≤ L) (hC : ∀ i x, x ∈ ks → canB (L - p) F2 x i = canB L F x (p + i)) {Bh B2 M M2 : Nat → Int} (h : From L F ks Bh) (h2 : From (L - p) F2 ks B2) (c : Cnt L F ks Bh M) (c2 : Cnt (L - p) F2 ks B2 M2) : ∀ d i, d + i = L - p → M2 i = M (p + i) := by
  intro d
  induction d using Nat.strongRecOn with
  | _ d ih =>
    intro i hdi
    have hB := part2_worth hp hC h h2
    by_cases hi : i < L - p
    · rw [c2.sum hi, c.sum (show p + i < L by omega), hB i (by omega), hB (i + 1) (by omega), ih (L - p - (i + 1)) (by omega) (i + 1) (by omega)]
      congr 2
      apply List.map_congr_left
      intro k _
      have hci := canI_eq (hC i) k
      unfold tieT
      rw [hci]
      cases hc : canI L F ks (p + i) k with
      | false => simp
      | true =>
        obtain ⟨x, hx, hcb, hd⟩ := canI_at hc
        have hb := hk.bd hx
        have hle := (canB_iff.1 hcb).1
        unfold nK
        rw [hd, hB i (by omega), hB (i + x.w.toNat) (by omega), ih (L - p - (i + x.w.toNat)) (by omega) (i + x.w.toNat) (by omega), Nat.add_assoc]
    · have e : i = L - p := by omega
      rw [e, c2.one, show p + (L - p) = L from by omega, c.one]
end

/-! ### The part ahead of a place -/
/-- From a place on there are best cuts with a sheet over place p. -/
inductive Cross (L : Nat) (F : Nat → Int) (ks : List Kd) (Bh : Nat → Int) (p : Nat) : Nat → Prop
  | here (i k : Nat) (x : Kd) : i < p → ks[k]? = some x → canB L F x i = true → p < i + x.w.toNat → x.p + Bh (i + x.w.toNat) = Bh i → Cross L F ks Bh p i
  | waste (i : Nat) : i < p → Bh (i + 1) = Bh i → Cross L F ks Bh p (i + 1) → Cross L F ks Bh p i
  | sheet (i k : Nat) (x : Kd) : i < p → ks[k]? = some x → canB L F x i = true → i + x.w.toNat ≤ p → x.p + Bh (i + x.w.toNat) = Bh i → Cross L F ks Bh p (i + x.w.toNat) → Cross L F ks Bh p i
section
variable {L p : Nat} {F F1 : Nat → Int} {ks : List Kd}
theorem Way.up {i j : Nat} {v : Int} (h : Way L F ks i j v) : i ≤ j := by
  induction h with
  | nil => exact Nat.le_refl _
  | waste _ _ _ _ _ ih => omega
  | sheet _ _ _ _ _ _ _ _ ih => omega
theorem way_in (hp : p ≤ L) (hC : ∀ i x, x ∈ ks → canB p F1 x i = (canB L F x i && decide ((i : Int) + x.w ≤ p))) {i j : Nat} {v : Int} (h : Way p F1 ks i j v) : Way L F ks i j v := by
  induction h with
  | nil i => exact .nil _
  | waste i e v hl _ ih => exact .waste _ _ _ (by omega) ih
  | sheet i e k x v hx hc _ ih =>
    rw [hC i x (List.mem_of_getElem? hx), Bool.and_eq_true] at hc
    exact .sheet _ _ k x _ hx hc.1 ih
theorem way_cut (hk : KOk ks) (hC : ∀ i x, x ∈ ks → canB p F1 x i = (canB L F x i && decide ((i : Int) + x.w ≤ p))) {i j : Nat} {v : Int} (h : Way L F ks i j v) : j ≤ p → Way p F1 ks i j v := by
  induction h with
  | nil i => intro _; exact .nil _
  | waste i e v hl hw ih => intro h; exact .waste _ _ _ (by have := hw.up; omega) (ih h)
  | sheet i e k x v hx hc hw ih =>
    intro h
    have hb := hk.bd hx
    refine .sheet _ _ k x _ hx ?_ (ih h)
    rw [hC i x (List.mem_of_getElem? hx), hc, Bool.true_and, decide_eq_true_eq]
    have := hw.up
    omega
theorem part1_le (hp : p ≤ L) (hC : ∀ i x, x ∈ ks → canB p F1 x i = (canB L F x i && decide ((i : Int) + x.w ≤ p))) {Bh B1 : Nat → Int} (h : From L F ks Bh) (h1 : From p F1 ks B1) (i : Nat) (hi : i ≤ p) : B1 i + Bh p ≤ Bh i := by
  have := h.le (way_in hp hC (h1.way i hi))
  omega
theorem part1_worth (hk : KOk ks) (hp : p ≤ L) (hC : ∀ i x, x ∈ ks → canB p F1 x i = (canB L F x i && decide ((i : Int) + x.w ≤ p))) {A B1 : Nat → Int} (h : UpTo L F ks A) (h1 : From p F1 ks B1) : B1 0 = A p := by
  have a1 := h.le (way_in hp hC (h1.way 0 (Nat.zero_le _)))
  have a2 := h1.le (way_cut hk hC (h.way p hp) (Nat.le_refl _))
  have a3 := h.zero
  have a4 := h1.zero
  omega
/-- How many best cuts from a place on keep place p free. -/
def freeT (Bh B1 M M1 : Nat → Int) (p i : Nat) : Int := if B1 i + Bh p = Bh i then M1 i * M p else 0
theorem free_sum (hk : KOk ks) (hp : p ≤ L) (hC : ∀ i x, x ∈ ks → canB p F1 x i = (canB L F x i && decide ((i : Int) + x.w ≤ p))) {Bh B1 M M1 : Nat → Int} (h : From L F ks Bh) (h1 : From p F1 ks B1) (c1 : Cnt p F1 ks B1 M1) {i : Nat} (hi : i < p) :
    freeT Bh B1 M M1 p i = (if Bh (i + 1) = Bh i then freeT Bh B1 M M1 p (i + 1) else 0) + ((List.range ks.length).map fun k => if tieT L F ks Bh i k && decide (i + (ks.getD k ⟨0, 0, 0⟩).w.toNat ≤ p) then freeT Bh B1 M M1 p (i + (ks.getD k ⟨0, 0, 0⟩).w.toNat) else 0).sum := by
  have hle := part1_le hp hC h h1
  have hci : ∀ k x, ks[k]? = some x → canI p F1 ks i k = (canB L F x i && decide ((i : Int) + x.w ≤ p)) := fun k x hx => by unfold canI; rw [hx]; exact hC i x (List.mem_of_getElem? hx)
  by_cases he : B1 i + Bh p = Bh i
  · have e0 : freeT Bh B1 M M1 p i = M1 i * M p := if_pos he
    rw [e0, c1.sum hi, Int.add_mul, sum_mul]
    congr 1
    · have l1 := hle (i + 1) (by omega)
      have l2 := h1.waste i hi
      have l3 := h.waste i (by omega)
      by_cases ht : B1 (i + 1) = B1 i
      · rw [if_pos ht, if_pos (by omega)]
        unfold freeT
        rw [if_pos (by omega)]
      · rw [if_neg ht]
        by_cases ht2 : Bh (i + 1) = Bh i
        · rw [if_pos ht2]; unfold freeT; rw [if_neg (by omega)]; omega
        · rw [if_neg ht2]; omega
    · congr 1
      apply List.map_congr_left
      intro k hkm
      obtain ⟨x, hx⟩ : ∃ x, ks[k]? = some x := ⟨_, List.getElem?_eq_getElem (List.mem_range.1 hkm)⟩
      have hgd : ks.getD k ⟨0, 0, 0⟩ = x := by simp [List.getD, hx]
      have hb := hk.bd hx
      have hcL : canI L F ks i k = canB L F x i := by unfold canI; rw [hx]
      unfold tieT nK
      rw [hci k x hx, hcL, hgd]
      cases hcb : canB L F x i with
      | false => simp
      | true =>
        by_cases hwp : i + x.w.toNat ≤ p
        · have hwp' : (i : Int) + x.w ≤ p := by omega
          have l1 := hle (i + x.w.toNat) hwp
          have l2 := h1.sheet i k x hx (by rw [hC i x (List.mem_of_getElem? hx), hcb]; simpa using hwp')
          have l3 := h.sheet i k x hx hcb
          simp only [Bool.true_and, hwp', hwp, decide_true, Bool.and_true, decide_eq_true_eq]
          by_cases ht : x.p + B1 (i + x.w.toNat) = B1 i
          · rw [if_pos ht, if_pos (by omega)]
            unfold freeT
            rw [if_pos (by omega)]
          · rw [if_neg ht]
            by_cases ht2 : x.p + Bh (i + x.w.toNat) = Bh i
            · rw [if_pos ht2]; unfold freeT; rw [if_neg (by omega)]; omega
            · rw [if_neg ht2]; omega
        · have hwp' : ¬ (i : Int) + x.w ≤ p := by omega
          simp [hwp, hwp']
  · have e0 : freeT Bh B1 M M1 p i = 0 := if_neg he
    rw [e0]
    have l0 := hle i (by omega)
    have z1 : (if Bh (i + 1) = Bh i then freeT Bh B1 M M1 p (i + 1) else 0) = 0 := by
      have l1 := hle (i + 1) (by omega)
      have l2 := h1.waste i hi
      by_cases ht2 : Bh (i + 1) = Bh i
      · rw [if_pos ht2]; unfold freeT; rw [if_neg (by omega)]
      · rw [if_neg ht2]
    rw [z1]
    have z2 : ((List.range ks.length).map fun k => if tieT L F ks Bh i k && decide (i + (ks.getD k ⟨0, 0, 0⟩).w.toNat ≤ p) then freeT Bh B1 M M1 p (i + (ks.getD k ⟨0, 0, 0⟩).w.toNat) else 0) = (List.range ks.length).map fun _ => (0 : Int) := by
      apply List.map_congr_left
      intro k hkm
      obtain ⟨x, hx⟩ : ∃ x, ks[k]? = some x := ⟨_, List.getElem?_eq_getElem (List.mem_range.1 hkm)⟩
      have hgd : ks.getD k ⟨0, 0, 0⟩ = x := by simp [List.getD, hx]
      have hb := hk.bd hx
      have hcL : canI L F ks i k = canB L F x i := by unfold canI; rw [hx]
      rw [hgd]
      split
      · rename_i ht
        unfold tieT nK at ht
        rw [hcL, hgd] at ht
        simp only [Bool.and_eq_true, decide_eq_true_eq] at ht
        have l1 := hle (i + x.w.toNat) ht.2
        have l2 := h1.sheet i k x hx (by rw [hC i x (List.mem_of_getElem? hx), ht.1.1]; simp; omega)
        unfold freeT
        rw [if_neg (by omega)]
      · rfl
    rw [z2, sum_zero]
    omega
theorem free_cmp (hk : KOk ks) (hp : p ≤ L) (hC : ∀ i x, x ∈ ks → canB p F1 x i = (canB L F x i && decide ((i : Int) + x.w ≤ p))) {Bh B1 M M1 : Nat → Int} (h : From L F ks Bh) (h1 : From p F1 ks B1) (c : Cnt L F ks Bh M) (c1 : Cnt p F1 ks B1 M1) :
    ∀ d i, d + i = p → freeT Bh B1 M M1 p i ≤ M i ∧ (freeT Bh B1 M M1 p i < M i ↔ Cross L F ks Bh p i) := by
  intro d
  induction d using Nat.strongRecOn with
  | _ d ih =>
    intro i hdi
    by_cases hi : i < p
    · have hterm : ∀ k ∈ List.range ks.length, (if tieT L F ks Bh i k && decide (i + (ks.getD k ⟨0, 0, 0⟩).w.toNat ≤ p) then freeT Bh B1 M M1 p (i + (ks.getD k ⟨0, 0, 0⟩).w.toNat) else 0) ≤ (if tieT L F ks Bh i k then M (i + (ks.getD k ⟨0, 0, 0⟩).w.toNat) else 0) := by
        intro k hkm
        obtain ⟨x, hx⟩ : ∃ x, ks[k]? = some x := ⟨_, List.getElem?_eq_getElem (List.mem_range.1 hkm)⟩
        have hgd : ks.getD k ⟨0, 0, 0⟩ = x := by simp [List.getD, hx]
        have hb := hk.bd hx
        rw [hgd]
        cases ht : tieT L F ks Bh i k with
        | false => simp
        | true =>
          have ht' := ht
          unfold tieT canI at ht'
          rw [hx] at ht'
          simp only [Bool.and_eq_true] at ht'
          have hle := (canB_iff.1 ht'.1).1
          by_cases hwp : i + x.w.toNat ≤ p
          · simp only [hwp, decide_true, Bool.and_true, if_true]
            exact (ih (p - (i + x.w.toNat)) (by omega) (i + x.w.toNat) (by omega)).1
          · simp only [hwp, decide_false, Bool.and_false, if_true]
            have := c.pos hk h (L - (i + x.w.toNat)) (i + x.w.toNat) (by omega)
            simp
            omega
      obtain ⟨s1, s2⟩ := sum_cmp _ _ _ hterm
      obtain ⟨w1, w2⟩ := ih (p - (i + 1)) (by omega) (i + 1) (by omega)
      rw [free_sum hk hp hC h h1 c1 hi, c.sum (show i < L by omega)]
      have hww : (if Bh (i + 1) = Bh i then freeT Bh B1 M M1 p (i + 1) else 0) ≤ (if Bh (i + 1) = Bh i then M (i + 1) else 0) := by split <;> omega
      refine ⟨by omega, ?_⟩
      constructor
      · intro hlt
        by_cases hw : (if Bh (i + 1) = Bh i then freeT Bh B1 M M1 p (i + 1) else 0) < (if Bh (i + 1) = Bh i then M (i + 1) else 0)
        · by_cases ht : Bh (i + 1) = Bh i
          · rw [if_pos ht, if_pos ht] at hw
            exact .waste i hi ht (w2.1 hw)
          · rw [if_neg ht, if_neg ht] at hw; omega
        · obtain ⟨k, hkm, hkl⟩ := s2.1 (by omega)
          obtain ⟨x, hx⟩ : ∃ x, ks[k]? = some x := ⟨_, List.getElem?_eq_getElem (List.mem_range.1 hkm)⟩
          have hgd : ks.getD k ⟨0, 0, 0⟩ = x := by simp [List.getD, hx]
          have hb := hk.bd hx
          rw [hgd] at hkl
          cases ht : tieT L F ks Bh i k with
          | false => rw [ht] at hkl; simp at hkl
          | true =>
            have ht' := ht
            unfold tieT canI nK at ht'
            rw [hx, hgd] at ht'
            simp only [Bool.and_eq_true, decide_eq_true_eq] at ht'
            by_cases hwp : i + x.w.toNat ≤ p
            · rw [ht] at hkl
              simp only [hwp, decide_true, Bool.and_true, if_true] at hkl
              exact .sheet i k x hi hx ht'.1 hwp ht'.2 ((ih (p - (i + x.w.toNat)) (by omega) (i + x.w.toNat) (by omega)).2.1 hkl)
            · exact .here i k x hi hx ht'.1 (by omega) ht'.2
      · intro hcr
        cases hcr with
        | here _ k x _ hx hc hw ht =>
          have hgd : ks.getD k ⟨0, 0, 0⟩ = x := by simp [List.getD, hx]
          have hle := (canB_iff.1 hc).1
          have hb := hk.bd hx
          have htt : tieT L F ks Bh i k = true := by unfold tieT canI nK; rw [hx, hgd]; simp [hc, ht]
          have hwp : ¬ i + x.w.toNat ≤ p := by omega
          have := s2.2 ⟨k, List.mem_range.2 (List.getElem?_eq_some_iff.1 hx).1, by
            rw [htt, hgd]
            simp only [hwp, decide_false, Bool.and_false, if_true]
            have := c.pos hk h (L - (i + x.w.toNat)) (i + x.w.toNat) (by omega)
            simp
            omega⟩
          omega
        | waste _ _ ht hc =>
          have := w2.2 hc
          rw [if_pos ht, if_pos ht]
          omega
        | sheet _ k x _ hx hc hwp ht hcr =>
          have hgd : ks.getD k ⟨0, 0, 0⟩ = x := by simp [List.getD, hx]
          have hb := hk.bd hx
          have htt : tieT L F ks Bh i k = true := by unfold tieT canI nK; rw [hx, hgd]; simp [hc, ht]
          have := s2.2 ⟨k, List.mem_range.2 (List.getElem?_eq_some_iff.1 hx).1, by
            rw [htt, hgd]
            simp only [hwp, decide_true, Bool.and_true, if_true]
            exact (ih (p - (i + x.w.toNat)) (by omega) (i + x.w.toNat) (by omega)).2.2 hcr⟩
          omega
    · have e : i = p := by omega
      subst e
      have hz := h1.zero
      have ho := c1.one
      have e0 : freeT Bh B1 M M1 i i = M i := by unfold freeT; rw [if_pos (by omega), ho]; omega
      rw [e0]
      refine ⟨Int.le_refl _, ⟨fun h => by omega, fun hcr => ?_⟩⟩
      cases hcr <;> omega
end

section
variable {L p : Nat} {F : Nat → Int} {ks : List Kd} {A Bh : Nat → Int}
theorem cross_fwd (hU : UpTo L F ks A) (_hF : From L F ks Bh) (hAB : ∀ i, i ≤ L → A i + Bh i ≤ A L) (hp : p ≤ L) {i : Nat} (hc : Cross L F ks Bh p i) : A i + Bh i = A L → ∃ f k, keptS L F ks A Bh f k ∧ overB ks p f k = true := by
  induction hc with
  | here i k x hi hx hcb hw ht =>
    intro he
    have hgd : ks.getD k ⟨0, 0, 0⟩ = x := by simp [List.getD, hx]
    refine ⟨i, k, ⟨by omega, by unfold canI; rw [hx]; exact hcb, ?_⟩, ?_⟩
    · unfold wtK; rw [hgd]; omega
    · unfold overB; rw [hgd]; simp [hi, hw]
  | waste i hi ht _ ih =>
    intro he
    have h1 := hU.waste i (by omega)
    have h2 := hAB (i + 1) (by omega)
    exact ih (by omega)
  | sheet i k x hi hx hcb hwp ht _ ih =>
    intro he
    have h1 := hU.sheet i k x hx hcb
    have h2 := hAB (i + x.w.toNat) (by omega)
    exact ih (by omega)
theorem cross_back (hk : KOk ks) (hF : From L F ks Bh) {f : Nat} (hfp : f < p) (hcf : Cross L F ks Bh p f) {i j : Nat} {v : Int} (h : Way L F ks i j v) : j = f → v + Bh f = Bh i → Cross L F ks Bh p i := by
  induction h with
  | nil i => intro h _; rw [h]; exact hcf
  | waste i e v hl hw ih =>
    intro he hv
    have h1 := hF.waste i (by omega)
    have h2 := hF.le hw
    rw [he] at h2
    have h3 := hw.up
    exact .waste i (by omega) (by omega) (ih he (by omega))
  | sheet i e k x v hx hc hw ih =>
    intro he hv
    have h1 := hF.sheet i k x hx hc
    have h2 := hF.le hw
    rw [he] at h2
    have h3 := hw.up
    have hb := hk.bd hx
    exact .sheet i k x (by omega) hx hc (by omega) (by omega) (ih he (by omega))
theorem cross_eq (hk : KOk ks) (hU : UpTo L F ks A) (hF : From L F ks Bh) (hp : p ≤ L) : Cross L F ks Bh p 0 ↔ crossB L F ks A Bh p = true := by
  have hAB : ∀ i, i ≤ L → A i + Bh i ≤ A L := fun i hi => by
    have h1 := hU.le (hF.way i hi)
    exact h1
  have h0 := worth_same hU hF
  have hz := hU.zero
  rw [cross_iff]
  constructor
  · intro hc
    exact cross_fwd hU hF hAB hp hc (by omega)
  · rintro ⟨f, k, ⟨hf, hc, hkp⟩, ho⟩
    obtain ⟨x, hx, hcb, hgd⟩ := canI_at hc
    unfold wtK at hkp
    unfold overB at ho
    rw [hgd] at hkp ho
    simp only [Bool.and_eq_true, decide_eq_true_eq] at ho
    have h1 := hU.sheet f k x hx hcb
    have h2 := hF.sheet f k x hx hcb
    have h3 := hAB f (by omega)
    have hle := (canB_iff.1 hcb).1
    have hb := hk.bd hx
    have h4 := hAB (f + x.w.toNat) (by omega)
    have hcf : Cross L F ks Bh p f := .here f k x ho.1 hx hcb ho.2 (by omega)
    exact cross_back hk hF ho.1 hcf (hU.way f (by omega)) rfl (by omega)
end

/-- The document's word, of worths and counts of both parts. -/
def partsP (wv m w1 m1 w2 m2 : Int) : Int := if w1 + w2 < wv then 0 else if m1 * m2 < m then 1 else 2
section
variable {L p : Nat} {F F1 F2 : Nat → Int} {ks : List Kd}
theorem parted_same (hk : KOk ks) (hp : p ≤ L) (hC1 : ∀ i x, x ∈ ks → canB p F1 x i = (canB L F x i && decide ((i : Int) + x.w ≤ p))) (hC2 : ∀ i x, x ∈ ks → canB (L - p) F2 x i = canB L F x (p + i)) :
    partsP (behindAt L F ks L 0) ((refAt L F ks L).2 0) (behindAt p F1 ks p 0) ((refAt p F1 ks p).2 0) (behindAt (L - p) F2 ks (L - p) 0) ((refAt (L - p) F2 ks (L - p)).2 0) = (partedP L F ks (aheadAt L F ks L) (behindAt L F ks L) p).1 ∧
    (¬ behindAt p F1 ks p 0 + behindAt (L - p) F2 ks (L - p) 0 < behindAt L F ks L 0 → (refAt p F1 ks p).2 0 * (refAt (L - p) F2 ks (L - p)).2 0 ≤ (refAt L F ks L).2 0) := by
  have hU := ahead_upto (L := L) (F := F) hk
  have hF := behind_from (L := L) (F := F) hk
  have hF1 := behind_from (L := p) (F := F1) hk
  have hF2 := behind_from (L := L - p) (F := F2) hk
  have hc := cnt_ref (L := L) (F := F) hk
  have hc1 := cnt_ref (L := p) (F := F1) hk
  have hc2 := cnt_ref (L := L - p) (F := F2) hk
  have e1 := part1_worth hk hp hC1 hU hF1
  have e2 := part2_worth hp hC2 hF hF2 0 (Nat.zero_le _)
  have e3 := part2_many hk hp hC2 hF hF2 hc hc2 (L - p) 0 (by omega)
  obtain ⟨f1, f2⟩ := free_cmp hk hp hC1 hF hF1 hc hc1 p 0 (by omega)
  have e0 := worth_same hU hF
  have hcr := cross_eq hk hU hF hp
  have hle := part1_le hp hC1 hF hF1 0 (Nat.zero_le _)
  rw [Nat.add_zero] at e2 e3
  have hin : inR 0 (L : Int) (p : Int) = true := (inR_iff _ _ _).2 ⟨by omega, by omega⟩
  unfold partsP partedP
  rw [hin, if_neg (show ¬ (true = false) by simp), Int.toNat_natCast, e2, e3, ← e1]
  generalize behindAt p F1 ks p = B1 at *
  generalize behindAt L F ks L = Bh at *
  generalize aheadAt L F ks L = A at *
  generalize (refAt p F1 ks p).2 = M1 at *
  generalize (refAt L F ks L).2 = M at *
  by_cases hlt : B1 0 + Bh p < Bh 0
  · rw [if_pos hlt, if_pos (show B1 0 + Bh p < A L by omega)]
    exact ⟨rfl, fun h => absurd hlt h⟩
  · rw [if_neg hlt, if_neg (show ¬ B1 0 + Bh p < A L by omega)]
    have hfe : freeT Bh B1 M M1 p 0 = M1 0 * M p := if_pos (by omega)
    rw [hfe] at f1 f2
    refine ⟨?_, fun _ => f1⟩
    by_cases hx : M1 0 * M p < M 0
    · rw [if_pos hx, if_pos (hcr.1 (f2.1 hx))]
    · rw [if_neg hx, if_neg (fun h => hx (f2.2 (hcr.2 h)))]
end
/-- At both ends of a ribbon. -/
theorem parted_end {L p : Nat} {F : Nat → Int} {ks : List Kd} (hk : KOk ks) (hp : p = 0 ∨ p = L) : (partedP L F ks (aheadAt L F ks L) (behindAt L F ks L) p).1 = 2 := by
  have hU := ahead_upto (L := L) (F := F) hk
  have hF := behind_from (L := L) (F := F) hk
  have e0 := worth_same hU hF
  have hz := hU.zero
  have hz2 := hF.zero
  have hin : inR 0 (L : Int) (p : Int) = true := (inR_iff _ _ _).2 ⟨by omega, by omega⟩
  unfold partedP
  rw [hin, if_neg (show ¬ (true = false) by simp), Int.toNat_natCast, if_neg (by rcases hp with rfl | rfl <;> omega), if_neg]
  intro h
  obtain ⟨f, k, ⟨hf, hc, _⟩, ho⟩ := cross_iff.1 h
  obtain ⟨x, hx, hcb, hgd⟩ := canI_at hc
  have hle := (canB_iff.1 hcb).1
  have hb := hk.bd hx
  unfold overB at ho
  rw [hgd] at ho
  simp only [Bool.and_eq_true, decide_eq_true_eq] at ho
  omega
end Go.Proofs.Ytjmphmnimnbgkaa
