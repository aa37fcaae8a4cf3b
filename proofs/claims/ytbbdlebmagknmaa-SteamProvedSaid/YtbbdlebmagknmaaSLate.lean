/- What the filling is worth: the document's late loads, and as many as its least. No program. -/
import Derived.Test.YtbbdlebmagknmaaSUntil
import Derived.Test.YtbbdlebmagknmaaLate
namespace Go.Proofs.Ytbbdlebmagknmaa
open Go.RowKit Go.Shelf

section
variable {α β : Type} (f : α → β) (lo hi : β → Int)
theorem needW_map (L : Nat) (all : List α) (a b : Int) : Fill.needW (fun x => lo (f x)) (fun x => hi (f x)) L all a b = Fill.needW lo hi L (all.map f) a b := by
  unfold Fill.needW
  rw [List.countP_map]; rfl
theorem windowsP_map (all : List α) : Fill.windowsP (fun x => lo (f x)) (fun x => hi (f x)) all = Fill.windowsP lo hi (all.map f) := by
  unfold Fill.windowsP
  rw [List.flatMap_map]
  congr 1
  funext a
  rw [List.filter_map, List.map_map]
  rfl
theorem leastAt_map (L : Nat) (all : List α) : ∀ n, Fill.leastAt (fun x => lo (f x)) (fun x => hi (f x)) L all n = Fill.leastAt lo hi L (all.map f) n
  | 0 => rfl
  | n + 1 => by
    funext j
    unfold Fill.leastAt Fill.leastStep
    rw [leastAt_map L all n, windowsP_map]
    simp only [needW_map]
end
theorem rs_range (rs : List Rg) : (List.range rs.length).map (fun i => rs.getD i ⟨0, 0⟩) = rs := by
  apply List.ext_getElem
  · simp
  · intro i h1 h2
    simp [List.getD, h2]
theorem la_fill {rs : List Rg} (n : Nat) (L : Nat) : Fill.leastAt (loAt rs) (hiAt rs) L (List.range rs.length) n = Fill.leastAt Rg.lo Rg.hi L rs n := by
  have h := leastAt_map (fun i : Nat => rs.getD i ⟨0, 0⟩) Rg.lo Rg.hi L (List.range rs.length) n
  rw [rs_range] at h
  exact h
theorem late_congr {A B : Nat → Int} (n : Nat) (h : ∀ j, j ≤ n → A j = B j) : Fill.lateP A n = Fill.lateP B n := by
  unfold Fill.lateP
  rw [List.flatMap_def, List.flatMap_def]
  congr 1
  exact List.map_congr_left fun j hj => by
    have := List.mem_range.1 hj
    rw [h (j + 1) (by omega), h j (by omega)]
theorem fill_late {rs : List Rg} {L : Nat} {l : List Nat} {ts : List Int} {H : Nat → Int} (h : FillOk rs L l ts H) (hr : RsOk rs) (hL : 1 ≤ L) : ts = Fill.lateP (LA rs L) 101 ∧ (ts.length : Int) = LA rs L 101 := by
  have hb : ∀ x ∈ List.range rs.length, 0 ≤ loAt rs x ∧ loAt rs x ≤ hiAt rs x ∧ hiAt rs x ≤ 100 := fun x hx => hr.at_ (List.mem_range.1 hx)
  have hlen : l.length = rs.length := by rw [h.perm.length_eq, List.length_range]
  have h1 := Fill.late_fill (loAt rs) (hiAt rs) L hL (List.range rs.length) l hb h.srt (fun x hx => h.perm.mem_iff.1 hx) (fun p => h.perm.countP_eq p) rs.length (by omega)
  have h2 := Fill.least_fill (loAt rs) (hiAt rs) L hL (List.range rs.length) l (fun x hx => (hb x hx).1) (fun x hx => (hb x hx).2.1) h.srt (fun x hx => h.perm.mem_iff.1 hx) (fun p => h.perm.countP_eq p) rs.length (by omega) 101 101 (Nat.le_refl _)
  rw [la_fill] at h1 h2
  rw [← h.ts_eq] at h1 h2
  refine ⟨?_, ?_⟩
  · rw [← h1]
    exact late_congr 101 fun j hj => least_low rs L 101 j hj
  · rw [least_low rs L 101 101 (Nat.le_refl _)] at h2
    rw [h2]
    congr 1
    symm
    rw [List.countP_eq_length]
    intro t ht
    rw [h.ts_eq] at ht
    obtain ⟨x, hx, rfl⟩ := Fill.fillL_mem (loAt rs) (hiAt rs) L rs.length l t ht
    have := hb x (h.perm.mem_iff.1 hx)
    simp; omega
end Go.Proofs.Ytbbdlebmagknmaa
