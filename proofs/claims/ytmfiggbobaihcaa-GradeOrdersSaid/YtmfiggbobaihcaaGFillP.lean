/- Plain: the fill that is given is right, and spends what must be spent. -/
import Derived.Test.YtmfiggbobaihcaaGProofB
namespace Go.Proofs.Ytmfiggbobaihcaa

/-- What an order gets of a grade. -/
def fF (F : Nat → Nat → Option Int) (i g : Nat) : Int := (F i g).getD 0
/-- What a fill gives to an order of a grade. -/
def fX (X : List (List Int)) (i g : Nat) : Int := (X.getD i []).getD g 0
/-- A right fill, as rows, that spends what must be spent. -/
structure FillIs (n : Nat) (O : List Od) (M : Nat → Int) (X : List (List Int)) : Prop where
  len : X.length = O.length
  row : ∀ x ∈ X, x.length = n
  right : Gr9.RightF (grO O) (mAt O) M O.length n (fX X)
  small : ∀ x ∈ X, ∀ y ∈ x, 0 ≤ y ∧ y ≤ 20
  got : ∀ g, g < n → Gr9.pre (fun i => fX X i g) O.length = spV n O M g
/-- The rows of a map. -/
def rowsF (F : Nat → Nat → Option Int) (n : Nat) : Nat → List (List Int) := fun m => (List.range m).map fun i => (List.range n).map (fF F i)
theorem rowsF_at {F : Nat → Nat → Option Int} {n m i g : Nat} (hi : i < m) (hg : g < n) : fX (rowsF F n m) i g = fF F i g := by
  unfold fX rowsF
  have h1 : ((List.range m).map fun i => (List.range n).map (fF F i))[i]? = some ((List.range n).map (fF F i)) := by simp [hi]
  rw [List.getD_eq_getElem?_getD, List.getD_eq_getElem?_getD, h1, Option.getD_some]
  simp [hg]
section
variable {n : Nat} {P : List Int} {O : List Od} {M : Nat → Int} {b : Int} {l : List Nat} {F : Nat → Nat → Option Int}
theorem fF_give (hF : ∀ f k, F f k = if (giveG O M l).2 f k = some 0 then none else (giveG O M l).2 f k) (i g : Nat) : fF F i g = ((giveG O M l).2 i g).getD 0 := getD_clean hF i g
theorem fF_bound (hk : ShOk n P O M b) (hb : b ≤ 150) (h : Ordl O l) (hF : ∀ f k, F f k = if (giveG O M l).2 f k = some 0 then none else (giveG O M l).2 f k) (i g : Nat) : 0 ≤ fF F i g ∧ fF F i g ≤ 20 := by
  rw [fF_give hF]
  cases hv : (giveG O M l).2 i g with
  | none => simp
  | some v => exact (giveG_ord (hk.oin.ok hk.n5) (fun j _ => by have := hk.stk j; omega) l (fun i hi => h.lt hi) i g v hv).2
theorem got_pre (h : Ordl O l) (h8 : O.length ≤ 8) (g : Nat) : Gr9.pre (fun i => ((giveG O M l).2 i g).getD 0) O.length = gotG (giveG O M l).2 g := by
  unfold gotG
  rw [sumF_pre]
  refine (Gr9.pre_stop 8 h8 fun i hi _ => ?_).symm
  have : (giveG O M l).2 i g = none := orders_other l (M, fun _ _ => none) i g fun him => by have := h.lt him; omega
  rw [this]
  rfl
theorem fill_is (hk : ShOk n P O M b) (hb : b ≤ 150) (hc : canB n O M = true) (h : Ordl O l) (hF : ∀ f k, F f k = if (giveG O M l).2 f k = some 0 then none else (giveG O M l).2 f k) : FillIs n O M (rowsF F n O.length) := by
  have h8 := hk.oin.1
  have hM := fun j => (hk.stk j).1
  have hgot : ∀ g, g < n → Gr9.pre (fun i => fX (rowsF F n O.length) i g) O.length = spV n O M g := fun g hg => by
    rw [Gr9.pre_congr (g := fun i => ((giveG O M l).2 i g).getD 0) O.length fun i hi => by rw [rowsF_at hi hg, fF_give hF], got_pre h h8, got_spent h hk.oin hM hc hg]
    rfl
  refine ⟨by simp [rowsF], fun x hx => ?_, ⟨fun i hi g hg => ?_, fun i hi g hg hgi => ?_, fun i hi => ?_, fun g hg => ?_⟩, fun x hx y hy => ?_, hgot⟩
  · simp only [rowsF, List.mem_map] at hx
    obtain ⟨i, _, rfl⟩ := hx
    simp
  · rw [rowsF_at hi hg]
    exact (fF_bound hk hb h hF i g).1
  · rw [rowsF_at hi hg, fF_give hF, (row_full h hk.oin hk.n5 hM hc hi).2 g hgi]
    rfl
  · have h1 := row_full h hk.oin hk.n5 hM hc hi
    rw [← h1.1]
    unfold rowG
    rw [sumF_pre, Gr9.pre_stop 5 (k := n) hk.n5 fun g hg _ => ?_]
    · exact Gr9.pre_congr n fun g hg => by rw [rowsF_at hi hg, fF_give hF]
    · have h2 := hk.oin.at_ hi
      rw [h1.2 g (by unfold grO; omega)]
      rfl
  · rw [Gr9.pre_congr (g := fun i => ((giveG O M l).2 i g).getD 0) O.length fun i hi => by rw [rowsF_at hi hg, fF_give hF], got_pre h h8, gotG_give h.nodup (fun i hi => by have := h.lt hi; omega)]
    have h1 := (fill_part h hk.oin hM hc l [] (by simp)).nn g
    have h2 : (giveG O M l).1 g = Gr9.fillG M (osOf O l) g := congrFun (give_fill O l (M, fun _ _ => none)) g
    omega
  · simp only [rowsF, List.mem_map] at hx
    obtain ⟨i, _, rfl⟩ := hx
    obtain ⟨g, _, rfl⟩ := List.mem_map.1 hy
    exact fF_bound hk hb h hF i g
end
end Go.Proofs.Ytmfiggbobaihcaa
