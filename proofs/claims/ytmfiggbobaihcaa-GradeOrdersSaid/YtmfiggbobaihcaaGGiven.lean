/- Plain: what the store's give hands out, by grades. -/
import Derived.Test.YtmfiggbobaihcaaGGive
import Derived.Test.YtmfiggbobaihcaaGPlan
namespace Go.Proofs.Ytmfiggbobaihcaa

/-- The sum of the first so many numbers. -/
def sumF (G : Nat → Int) : Nat → Int
  | 0 => 0
  | n + 1 => sumF G n + G n
theorem sumF_congr {G H : Nat → Int} : ∀ n : Nat, (∀ j, j < n → G j = H j) → sumF G n = sumF H n
  | 0, _ => rfl
  | n + 1, h => by
    have h1 := sumF_congr n fun j hj => h j (by omega)
    have h2 := h n (by omega)
    show sumF G n + G n = sumF H n + H n
    rw [h1, h2]
theorem sumF_upd {G H : Nat → Int} {i : Nat} {d : Int} (hi : H i = G i + d) (ho : ∀ j, j ≠ i → H j = G j) : ∀ n : Nat, i < n → sumF H n = sumF G n + d
  | 0, h => by omega
  | n + 1, h => by
    show sumF H n + H n = sumF G n + G n + d
    by_cases e : i = n
    · subst e
      rw [sumF_congr i (G := H) (H := G) fun j hj => ho j (by omega), hi]
      omega
    · rw [sumF_upd hi ho n (by omega), ho n (by omega)]
      omega
/-- What all orders get from a grade. -/
def gotG (F : Nat → Nat → Option Int) (g : Nat) : Int := sumF (fun f => (F f g).getD 0) 8
theorem gotG_step {s : Gs} {i x : Nat} (hi : i < 8) (hn : s.F i x = none) (g : Nat) : gotG (stepG i s x).F g + (stepG i s x).left g = gotG s.F g + s.left g := by
  unfold gotG stepG
  simp only
  by_cases e : g = x
  · subst e
    have h1 := sumF_upd (G := fun f => (s.F f g).getD 0) (H := fun f => (updF s.F i g (some (min s.want (s.left g))) f g).getD 0) (i := i) (d := min s.want (s.left g)) (by simp [updF, hn]) (fun j hj => by simp [updF, hj]) 8 hi
    rw [h1]
    unfold updN
    rw [if_pos rfl]
    omega
  · have h1 := sumF_congr (G := fun f => (updF s.F i x (some (min s.want (s.left x))) f g).getD 0) (H := fun f => (s.F f g).getD 0) 8 (fun j _ => by simp [updF, e])
    rw [h1]
    unfold updN
    rw [if_neg e]
theorem steps_other {i : Nat} : ∀ (xs : List Nat) (s : Gs) (f k : Nat), (f ≠ i ∨ k ∉ xs) → (xs.foldl (stepG i) s).F f k = s.F f k
  | [], _, _, _, _ => rfl
  | x :: xs, s, f, k, h => by
    show (xs.foldl (stepG i) (stepG i s x)).F f k = _
    rw [steps_other xs (stepG i s x) f k (h.imp_right fun h h2 => h (by simp [h2]))]
    show updF s.F i x _ f k = _
    unfold updF
    rw [if_neg]
    rintro ⟨rfl, rfl⟩
    rcases h with h | h
    · exact h rfl
    · exact h (by simp)
theorem gotG_steps {i : Nat} (hi : i < 8) (g : Nat) : ∀ (xs : List Nat) (s : Gs), xs.Nodup → (∀ x ∈ xs, s.F i x = none) → gotG (xs.foldl (stepG i) s).F g + (xs.foldl (stepG i) s).left g = gotG s.F g + s.left g
  | [], _, _, _ => rfl
  | x :: xs, s, hd, hn => by
    show gotG (xs.foldl (stepG i) (stepG i s x)).F g + (xs.foldl (stepG i) (stepG i s x)).left g = _
    have hd2 := List.nodup_cons.1 hd
    rw [gotG_steps hi g xs (stepG i s x) hd2.2 fun y hy => ?_, gotG_step hi (hn x (by simp))]
    show updF s.F i x _ i y = none
    unfold updF
    rw [if_neg, hn y (by simp [hy])]
    rintro ⟨_, rfl⟩
    exact hd2.1 hy
theorem down_nodup : ∀ g : Nat, (downL g).Nodup
  | 0 => by simp [downL]
  | g + 1 => List.nodup_cons.2 ⟨fun h => by have := down_mem g _ h; omega, down_nodup g⟩
theorem orders_other {O : List Od} : ∀ (l : List Nat) (s : (Nat → Int) × (Nat → Nat → Option Int)) (f k : Nat), f ∉ l → (l.foldl (orderG O) s).2 f k = s.2 f k
  | [], _, _, _, _ => rfl
  | i :: l, s, f, k, h => by
    show (l.foldl (orderG O) (orderG O s i)).2 f k = _
    rw [orders_other l _ f k fun h2 => h (by simp [h2])]
    exact steps_other _ _ f k (.inl fun e => h (by simp [e]))
theorem gotG_orders {O : List Od} (g : Nat) : ∀ (l : List Nat) (s : (Nat → Int) × (Nat → Nat → Option Int)), l.Nodup → (∀ i ∈ l, i < 8 ∧ ∀ k, s.2 i k = none) → gotG (l.foldl (orderG O) s).2 g + (l.foldl (orderG O) s).1 g = gotG s.2 g + s.1 g
  | [], _, _, _ => rfl
  | i :: l, s, hd, hn => by
    show gotG (l.foldl (orderG O) (orderG O s i)).2 g + (l.foldl (orderG O) (orderG O s i)).1 g = _
    have hd2 := List.nodup_cons.1 hd
    have hi := hn i (by simp)
    rw [gotG_orders g l (orderG O s i) hd2.2 fun j hj => ⟨(hn j (by simp [hj])).1, fun k => ?_⟩]
    · exact gotG_steps hi.1 g _ ⟨s.1, mAt O i, s.2⟩ (down_nodup _) fun x _ => hi.2 x
    · rw [← (hn j (by simp [hj])).2 k]
      exact steps_other _ _ j k (.inl fun e => hd2.1 (e ▸ hj))
/-- **What is given from a grade, and what is left, are all that there was.** -/
theorem gotG_give {O : List Od} {M : Nat → Int} {l : List Nat} (hd : l.Nodup) (hl : ∀ i ∈ l, i < 8) (g : Nat) : gotG (giveG O M l).2 g = M g - (giveG O M l).1 g := by
  have h := gotG_orders (O := O) g l (M, fun _ _ => none) hd fun i hi => ⟨hl i hi, fun _ => rfl⟩
  have h0 : gotG (fun _ _ => none) g = 0 := rfl
  simp only [h0] at h
  unfold giveG
  omega
theorem steps_take (i : Nat) : ∀ (g : Nat) (left : Nat → Int) (want : Int) (F : Nat → Nat → Option Int), ((downL g).foldl (stepG i) ⟨left, want, F⟩).left = (Gr9.takeG (g + 1) left want).1 ∧ ((downL g).foldl (stepG i) ⟨left, want, F⟩).want = (Gr9.takeG (g + 1) left want).2
  | 0, _, _, _ => ⟨rfl, rfl⟩
  | g + 1, _, _, _ => steps_take i g _ _ _
def osOf (O : List Od) (l : List Nat) : List (Nat × Int) := l.map fun i => ((gAt O i).toNat, mAt O i)
theorem give_fill (O : List Od) : ∀ (l : List Nat) (s : (Nat → Int) × (Nat → Nat → Option Int)), (l.foldl (orderG O) s).1 = Gr9.fillG s.1 (osOf O l)
  | [], _ => rfl
  | i :: l, s => by
    show (l.foldl (orderG O) (orderG O s i)).1 = Gr9.fillG (Gr9.takeG ((gAt O i).toNat + 1) s.1 (mAt O i)).1 (osOf O l)
    rw [give_fill O l (orderG O s i)]
    congr 1
    exact (steps_take i _ s.1 (mAt O i) s.2).1
end Go.Proofs.Ytmfiggbobaihcaa
