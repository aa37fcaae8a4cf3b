/- Plain law: what is worth most up to each place, and behind it, step by step as the table is made. No program. -/
import Derived.Test.YtjmphmnimnbgkaaNew
namespace Go.Proofs.Ytjmphmnimnbgkaa
open Go.RowKit

/-- How many faults lie before a place. -/
def cnt (fs : List Int) (j : Nat) : Int := ((List.range j).countP (fun i : Nat => fs.contains (i : Int)) : Nat)
def Fst (fs : List Int) (k : Nat) : Nat → Int := fun j => if j ≤ k then cnt fs j else 0
theorem cnt_zero (fs : List Int) : cnt fs 0 = 0 := rfl
theorem cnt_succ (fs : List Int) (j : Nat) : cnt fs (j + 1) = cnt fs j + if fs.contains (j : Int) then 1 else 0 := by
  unfold cnt
  rw [List.range_succ, List.countP_append]
  by_cases h : fs.contains (j : Int) = true
  · simp only [h, List.countP_cons, List.countP_nil, if_true]; omega
  · simp only [h, List.countP_cons, List.countP_nil]; simp
theorem cnt_bd (fs : List Int) (j : Nat) : 0 ≤ cnt fs j ∧ cnt fs j ≤ j := by
  unfold cnt
  have := List.countP_le_length (p := fun i : Nat => fs.contains (i : Int)) (l := List.range j)
  simp only [List.length_range] at this
  omega
theorem Fst_bd (fs : List Int) {k : Nat} (hk : k ≤ 24) (j : Nat) : 0 ≤ Fst fs k j ∧ Fst fs k j ≤ 24 := by
  unfold Fst
  have := cnt_bd fs j
  split <;> omega
theorem Fst_zero (fs : List Int) : Fst fs 0 = fun _ => 0 := by
  funext j
  unfold Fst
  by_cases h : j ≤ 0
  · have : j = 0 := by omega
    subst this; simp [cnt_zero]
  · simp [h]
theorem Fst_self (fs : List Int) (k : Nat) : Fst fs k k = cnt fs k := by simp [Fst]
theorem Fst_no (fs : List Int) (k : Nat) (h : fs.contains (k : Int) = false) : upd (Fst fs k) (k + 1) (cnt fs k) = Fst fs (k + 1) := by
  funext j
  unfold upd Fst
  by_cases e : j = k + 1
  · subst e; rw [if_pos rfl, if_pos (Nat.le_refl _), cnt_succ, h]; simp
  · by_cases e2 : j ≤ k
    · simp [e, e2, show j ≤ k + 1 from by omega]
    · simp [e, e2, show ¬ j ≤ k + 1 from by omega]
theorem Fst_yes (fs : List Int) (k : Nat) (h : fs.contains (k : Int) = true) : upd (upd (Fst fs k) (k + 1) (cnt fs k)) (k + 1) (cnt fs k + 1) = Fst fs (k + 1) := by
  funext j
  unfold upd Fst
  by_cases e : j = k + 1
  · subst e; rw [if_pos rfl, if_pos (Nat.le_refl _), cnt_succ, h]; simp
  · by_cases e2 : j ≤ k
    · simp [e, e2, show j ≤ k + 1 from by omega]
    · simp [e, e2, show ¬ j ≤ k + 1 from by omega]

/-- The better one of two. -/
def mx (a b : Int) : Int := if a < b then b else a

/-- One more sheet, from place i on. -/
def relA (A : Nat → Int) (i : Nat) (x : Kd) : Nat → Int := upd A (i + x.w.toNat) (mx (A (i + x.w.toNat)) (A i + x.p))
/-- The list of worths up to each place, when the sheets of some kinds from place i on have been looked at. -/
def aheadIn (ks : List Kd) (i : Nat) (A : Nat → Int) : List Nat → Nat → Int
  | [] => A
  | k :: l => aheadIn ks i (relA A i (ks.getD k ⟨0, 0, 0⟩)) l
/-- .. when k places have been looked at. -/
def aheadAt (L : Nat) (F : Nat → Int) (ks : List Kd) : Nat → Nat → Int
  | 0 => fun _ => 0
  | k + 1 => aheadIn ks k (upd (aheadAt L F ks k) (k + 1) (mx (aheadAt L F ks k (k + 1)) (aheadAt L F ks k k))) ((List.range ks.length).filter (canI L F ks k))
theorem aheadIn_snoc (ks : List Kd) (i : Nat) (A : Nat → Int) (l : List Nat) (k : Nat) : aheadIn ks i A (l ++ [k]) = relA (aheadIn ks i A l) i (ks.getD k ⟨0, 0, 0⟩) := by
  induction l generalizing A with
  | nil => rfl
  | cons a l ih => exact ih _

def relB (Bh : Nat → Int) (i : Nat) (x : Kd) : Nat → Int := upd Bh i (mx (Bh i) (Bh (i + x.w.toNat) + x.p))
def behindIn (ks : List Kd) (i : Nat) (Bh : Nat → Int) : List Nat → Nat → Int
  | [] => Bh
  | k :: l => behindIn ks i (relB Bh i (ks.getD k ⟨0, 0, 0⟩)) l
def behindAt (L : Nat) (F : Nat → Int) (ks : List Kd) : Nat → Nat → Int
  | 0 => fun _ => 0
  | k + 1 => behindIn ks (L - 1 - k) (upd (behindAt L F ks k) (L - 1 - k) (behindAt L F ks k (L - 1 - k + 1))) ((List.range ks.length).filter (canI L F ks (L - 1 - k)))
theorem behindIn_snoc (ks : List Kd) (i : Nat) (A : Nat → Int) (l : List Nat) (k : Nat) : behindIn ks i A (l ++ [k]) = relB (behindIn ks i A l) i (ks.getD k ⟨0, 0, 0⟩) := by
  induction l generalizing A with
  | nil => rfl
  | cons a l ih => exact ih _

/-- No more than 1000 a unit. -/
def BdA (A : Nat → Int) : Prop := ∀ j, 0 ≤ A j ∧ A j ≤ 1000 * j
theorem BdA.upd {A : Nat → Int} (h : BdA A) {i : Nat} {v : Int} (h0 : 0 ≤ v) (h1 : v ≤ 1000 * i) : BdA (upd A i v) := by
  intro j
  unfold Proofs.Ytjmphmnimnbgkaa.upd
  split
  · rename_i e; subst e; exact ⟨h0, h1⟩
  · exact h j
theorem BdA.rel {A : Nat → Int} (h : BdA A) (i : Nat) {x : Kd} (hw : 1 ≤ x.w) (hp : 1 ≤ x.p) (hp2 : x.p ≤ 1000) : BdA (relA A i x) := by
  unfold relA
  have h1 := h i
  have h2 := h (i + x.w.toNat)
  refine h.upd ?_ ?_ <;> (unfold mx; split <;> omega)
theorem BdA.in_ {ks : List Kd} (hk : KOk ks) {L : Nat} {F : Nat → Int} {i : Nat} : ∀ (l : List Nat) {A : Nat → Int}, BdA A → (∀ k ∈ l, canI L F ks i k = true) → BdA (aheadIn ks i A l) := by
  intro l
  induction l with
  | nil => exact fun h _ => h
  | cons k l ih =>
    intro A h hl
    have hc := hl k (by simp)
    refine ih (h.rel i ?_ ?_ ?_) (fun j hj => hl j (by simp [hj])) <;>
      (unfold canI at hc
       cases hx : ks[k]? with
       | none => rw [hx] at hc; cases hc
       | some x => simp only [List.getD, hx, Option.getD_some]; have := hk.bd hx; omega)
theorem aheadAt_bd {L : Nat} {F : Nat → Int} {ks : List Kd} (hk : KOk ks) (k : Nat) : BdA (aheadAt L F ks k) := by
  induction k with
  | zero => intro j; simp [aheadAt]; omega
  | succ k ih =>
    unfold aheadAt
    refine BdA.in_ (L := L) (F := F) hk _ ?_ (fun j hj => by simpa using (List.mem_filter.1 hj).2)
    have h1 := ih k
    have h2 := ih (k + 1)
    refine ih.upd ?_ ?_ <;> (unfold mx; split <;> omega)

def BdB (L : Nat) (A : Nat → Int) : Prop := ∀ j, 0 ≤ A j ∧ A j ≤ 1000 * ((L - j : Nat) : Int)
theorem BdB.upd {L : Nat} {A : Nat → Int} (h : BdB L A) {i : Nat} {v : Int} (h0 : 0 ≤ v) (h1 : v ≤ 1000 * ((L - i : Nat) : Int)) : BdB L (upd A i v) := by
  intro j
  unfold Proofs.Ytjmphmnimnbgkaa.upd
  split
  · rename_i e; subst e; exact ⟨h0, h1⟩
  · exact h j
theorem BdB.rel {L : Nat} {A : Nat → Int} (h : BdB L A) (i : Nat) {x : Kd} (hw : 1 ≤ x.w) (hp : 1 ≤ x.p) (hp2 : x.p ≤ 1000) (hl : i + x.w ≤ L) : BdB L (relB A i x) := by
  unfold relB
  have h1 := h i
  have h2 := h (i + x.w.toNat)
  refine h.upd ?_ ?_ <;> (unfold mx; split <;> omega)
theorem BdB.in_ {ks : List Kd} (hk : KOk ks) {L : Nat} {F : Nat → Int} {i : Nat} : ∀ (l : List Nat) {A : Nat → Int}, BdB L A → (∀ k ∈ l, canI L F ks i k = true) → BdB L (behindIn ks i A l) := by
  intro l
  induction l with
  | nil => exact fun h _ => h
  | cons k l ih =>
    intro A h hl
    have hc := hl k (by simp)
    refine ih (h.rel i ?_ ?_ ?_ ?_) (fun j hj => hl j (by simp [hj])) <;>
      (unfold canI at hc
       cases hx : ks[k]? with
       | none => rw [hx] at hc; cases hc
       | some x => rw [hx] at hc; simp only [List.getD, hx, Option.getD_some]; have := hk.bd hx; have := (canB_iff.1 hc).1; omega)
theorem behindAt_bd {L : Nat} {F : Nat → Int} {ks : List Kd} (hk : KOk ks) (k : Nat) (hkL : k ≤ L) : BdB L (behindAt L F ks k) := by
  induction k with
  | zero => intro j; simp [behindAt]; omega
  | succ k ih =>
    have ih := ih (by omega)
    unfold behindAt
    refine BdB.in_ (L := L) (F := F) hk _ ?_ (fun j hj => by simpa using (List.mem_filter.1 hj).2)
    have h1 := ih (L - 1 - k + 1)
    refine ih.upd ?_ ?_ <;> omega
end Go.Proofs.Ytjmphmnimnbgkaa
