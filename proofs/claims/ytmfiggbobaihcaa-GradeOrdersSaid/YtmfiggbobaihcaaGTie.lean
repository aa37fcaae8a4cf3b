/- Plain: what the store's give hands out is what must be spent, and is a right fill. -/
import Derived.Test.YtmfiggbobaihcaaGSpent
import Derived.Test.YtmfiggbobaihcaaGDual
namespace Go.Proofs.Ytmfiggbobaihcaa

theorem sumN_pre (M : Nat → Int) : ∀ n : Nat, sumN M n = Gr9.pre M n
  | 0 => rfl
  | n + 1 => by show sumN M n + M n = Gr9.pre M n + M n; rw [sumN_pre M n]
theorem sumF_pre (M : Nat → Int) : ∀ n : Nat, sumF M n = Gr9.pre M n
  | 0 => rfl
  | n + 1 => by show sumF M n + M n = Gr9.pre M n + M n; rw [sumF_pre M n]
/-- What is asked for, by numbers of grades. -/
def aO (O : List Od) (k : Nat) : Int := askI O k
def grO (O : List Od) (i : Nat) : Nat := (gAt O i).toNat
/-- Orders of a shop of so many grades. -/
def OIn (n : Nat) (O : List Od) : Prop := O.length ≤ 8 ∧ ∀ o ∈ O, (0 ≤ o.g ∧ o.g < n) ∧ 0 ≤ o.m ∧ o.m ≤ 20
theorem OIn.ok {n : Nat} {O : List Od} (h : OIn n O) (hn : n ≤ 5) : OOk O := ⟨h.1, fun o ho => by have := h.2 o ho; omega⟩
theorem OIn.at_ {n : Nat} {O : List Od} (h : OIn n O) {i : Nat} (hi : i < O.length) : (0 ≤ gAt O i ∧ gAt O i < n) ∧ 0 ≤ mAt O i ∧ mAt O i ≤ 20 := by
  have hx := List.getElem?_eq_getElem hi
  rw [gAt_eq hx, mAt_eq hx]
  exact h.2 _ (List.getElem_mem hi)
theorem Fine.oin {S P : List Int} {O : List Od} (h : Fine S P O) : OIn S.length O := ⟨h.o8, h.ord⟩
theorem asked_range (O : List Od) (k : Nat) : ∀ j : Nat, j ≤ O.length → Gr9.asked (osOf O (List.range j)) k = ((O.take j).map fun o => if o.g.toNat ≤ k then o.m else 0).sum
  | 0, _ => by simp [osOf, Gr9.asked]
  | j + 1, h => by
    have ih := asked_range O k j (by omega)
    have hx := List.getElem?_eq_getElem (show j < O.length by omega)
    rw [List.range_succ, osOf, List.map_append, Gr9.asked_app, List.take_add_one, hx, Option.toList_some, List.map_append, List.sum_append]
    rw [osOf] at ih
    rw [ih]
    simp only [List.map_cons, List.map_nil, Gr9.asked_cons, Gr9.asked_nil, gAt_eq hx, mAt_eq hx, List.sum_cons, List.sum_nil]
theorem askI_nat {n : Nat} {O : List Od} (h : OIn n O) (k : Nat) : (O.map fun o => if o.g.toNat ≤ k then o.m else 0).sum = aO O k := by
  unfold aO askI
  congr 1
  refine List.map_congr_left fun o ho => ?_
  have := h.2 o ho
  by_cases c : o.g.toNat ≤ k
  · rw [if_pos c, if_pos (by omega)]
  · rw [if_neg c, if_neg (by omega)]
theorem asked_all {n : Nat} {O : List Od} (h : OIn n O) {l : List Nat} (hp : l.Perm (List.range O.length)) (k : Nat) : Gr9.asked (osOf O l) k = aO O k := by
  have h1 : (osOf O l).Perm (osOf O (List.range O.length)) := hp.map _
  rw [Gr9.asked_perm h1, asked_range O k O.length (Nat.le_refl _), List.take_length, askI_nat h]
/-- What orders ask for, as the law of fills has it. -/
theorem ask_eq {n : Nat} {O : List Od} (h : OIn n O) (k : Nat) : Gr9.askF (grO O) (mAt O) O.length k = aO O k := by
  have key : ∀ j : Nat, j ≤ O.length → Gr9.askF (grO O) (mAt O) j k = ((O.take j).map fun o => if o.g.toNat ≤ k then o.m else 0).sum := by
    intro j
    induction j with
    | zero => intro _; simp [Gr9.askF, Gr9.pre]
    | succ j ih =>
      intro hj
      have hx := List.getElem?_eq_getElem (show j < O.length by omega)
      rw [List.take_add_one, hx, Option.toList_some, List.map_append, List.sum_append, ← ih (by omega)]
      show Gr9.askF (grO O) (mAt O) j k + (if grO O j ≤ k then mAt O j else 0) = _
      simp [grO, gAt_eq hx, mAt_eq hx]
  rw [key O.length (Nat.le_refl _), List.take_length, askI_nat h]
theorem aO_nonneg {n : Nat} {O : List Od} (h : OIn n O) (k : Nat) : 0 ≤ aO O k := (askI_bound O k fun o ho => (h.2 o ho).2).1
theorem can_pre {n : Nat} {O : List Od} {M : Nat → Int} (h : canB n O M = true) {g : Nat} (hg : g < n) : aO O g ≤ Gr9.pre M (g + 1) := by
  have := (canB_iff n O M).1 h g hg
  unfold shortI at this
  rw [sumN_pre] at this
  unfold aO
  omega
/-- A list of numbers of orders, in the order of their grades. -/
structure Ordl (O : List Od) (l : List Nat) : Prop where
  perm : l.Perm (List.range O.length)
  srt : l.Pairwise fun x y => gAt O x ≤ gAt O y
section
variable {n : Nat} {O : List Od} {M : Nat → Int} {l : List Nat}
theorem Ordl.lt (h : Ordl O l) {i : Nat} (hi : i ∈ l) : i < O.length := List.mem_range.1 (h.perm.mem_iff.1 hi)
theorem Ordl.nodup (h : Ordl O l) : l.Nodup := h.perm.nodup_iff.2 List.nodup_range
theorem Ordl.pair (h : Ordl O l) (ho : OIn n O) : (osOf O l).Pairwise (fun a b => a.1 ≤ b.1) := by
  refine List.pairwise_map.2 ((List.Pairwise.and_mem.1 h.srt).imp fun {x y} hxy => ?_)
  have h1 := ho.at_ (h.lt hxy.1)
  have h2 := ho.at_ (h.lt hxy.2.1)
  have := hxy.2.2
  show (gAt O x).toNat ≤ (gAt O y).toNat
  omega
theorem Ordl.ok (h : Ordl O l) (ho : OIn n O) : ∀ o ∈ osOf O l, o.1 < n ∧ 0 ≤ o.2 := by
  intro o hom
  obtain ⟨i, hi, rfl⟩ := List.mem_map.1 hom
  have h1 := ho.at_ (h.lt hi)
  show (gAt O i).toNat < n ∧ 0 ≤ mAt O i
  omega
theorem asked_pre_le {a b : List (Nat × Int)} (hb : ∀ o ∈ b, 0 ≤ o.2) (k : Nat) : Gr9.asked a k ≤ Gr9.asked (a ++ b) k := by
  rw [Gr9.asked_app]
  have := Gr9.asked_nonneg hb k
  omega
/-- The first orders of the list have been filled. -/
theorem fill_part (h : Ordl O l) (ho : OIn n O) (hM : ∀ j, 0 ≤ M j) (hc : canB n O M = true) (l1 l2 : List Nat) (hl : l = l1 ++ l2) : Gr9.SoFar M (Gr9.fillG M (osOf O l1)) n (osOf O l1) := by
  have hpair := h.pair ho
  have hok := h.ok ho
  have hask := fun k => asked_all ho h.perm k
  rw [hl, osOf, List.map_append] at hpair hok hask
  have h0 := Gr9.SoFar.start n hM
  have h1 := Gr9.fill_all hM (osOf O l1) [] M h0 (by rw [List.nil_append]; exact (List.pairwise_append.1 hpair).1) (fun o hom => hok o (by simp at hom; simp [osOf] at hom ⊢; exact .inl hom)) (fun g hg => ?_)
  · simpa using h1
  · rw [List.nil_append]
    refine Int.le_trans (asked_pre_le (b := osOf O l2) (fun o hom => (hok o (by simp [osOf] at hom ⊢; exact .inr hom)).2) g) ?_
    have := hask g
    show Gr9.asked (l1.map _ ++ l2.map _) g ≤ _
    rw [this]
    exact can_pre hc hg
/-- **What is given is what must be spent.** -/
theorem got_spent (h : Ordl O l) (ho : OIn n O) (hM : ∀ j, 0 ≤ M j) (hc : canB n O M = true) {g : Nat} (hg : g < n) : gotG (giveG O M l).2 g = Gr9.spentT M (aO O) n g := by
  have h1 := fill_part h ho hM hc l [] (by simp)
  have hgot : ∀ g, gotG (giveG O M l).2 g = M g - Gr9.fillG M (osOf O l) g := fun g => by
    rw [gotG_give h.nodup (fun i hi => by have := h.lt hi; have := ho.1; omega)]
    congr 1
    exact congrFun (give_fill O l (M, fun _ _ => none)) g
  have hpre : ∀ k, k ≤ n → Gr9.pre (gotG (giveG O M l).2) k = Gr9.pre M k - Gr9.pre (Gr9.fillG M (osOf O l)) k := fun k _ => by
    rw [← Gr9.pre_sub]
    exact Gr9.pre_congr k fun i _ => hgot i
  have ht : ∀ k, k < n → Gr9.pre (gotG (giveG O M l).2) (k + 1) = Gr9.mostG M (aO O) n k := fun k hk => by
    have h2 := h1.is k hk
    rw [← hpre (k + 1) (by omega)] at h2
    have e : Gr9.asked (osOf O l) = aO O := funext fun k => asked_all ho h.perm k
    rw [e] at h2
    exact h2.uniq (Gr9.mostG_is M (aO O) (by omega))
  unfold Gr9.spentT
  have e1 := ht g hg
  have e2 : Gr9.pre (gotG (giveG O M l).2) (g + 1) = Gr9.pre (gotG (giveG O M l).2) g + gotG (giveG O M l).2 g := rfl
  cases g with
  | zero =>
    have e3 : Gr9.pre (gotG (giveG O M l).2) 0 = 0 := rfl
    simp only
    omega
  | succ k =>
    have e3 := ht k (by omega)
    simp only
    omega
/-! ### The rows -/
/-- What an order gets. -/
def rowG (F : Nat → Nat → Option Int) (i : Nat) : Int := sumF (fun k => (F i k).getD 0) 5
theorem rowG_step {s : Gs} {i x : Nat} (hx : x < 5) (hn : s.F i x = none) : rowG (stepG i s x).F i + (stepG i s x).want = rowG s.F i + s.want := by
  unfold rowG stepG
  simp only
  have h1 := sumF_upd (G := fun k => (s.F i k).getD 0) (H := fun k => (updF s.F i x (some (min s.want (s.left x))) i k).getD 0) (i := x) (d := min s.want (s.left x)) (by simp [updF, hn]) (fun j hj => by simp [updF, hj]) 5 hx
  rw [h1]
  omega
theorem rowG_steps {i : Nat} : ∀ (xs : List Nat) (s : Gs), xs.Nodup → (∀ x ∈ xs, x < 5 ∧ s.F i x = none) → rowG (xs.foldl (stepG i) s).F i + (xs.foldl (stepG i) s).want = rowG s.F i + s.want
  | [], _, _, _ => rfl
  | x :: xs, s, hd, hn => by
    show rowG (xs.foldl (stepG i) (stepG i s x)).F i + (xs.foldl (stepG i) (stepG i s x)).want = _
    have hd2 := List.nodup_cons.1 hd
    rw [rowG_steps xs (stepG i s x) hd2.2 fun y hy => ⟨(hn y (by simp [hy])).1, ?_⟩, rowG_step (hn x (by simp)).1 (hn x (by simp)).2]
    show updF s.F i x _ i y = none
    unfold updF
    rw [if_neg, (hn y (by simp [hy])).2]
    rintro ⟨_, rfl⟩
    exact hd2.1 hy
theorem giveG_split (l1 l2 : List Nat) (i : Nat) (hd : i ∉ l2) (k : Nat) : (giveG O M (l1 ++ i :: l2)).2 i k = (orderG O (giveG O M l1) i).2 i k := by
  unfold giveG
  rw [List.foldl_append]
  exact orders_other l2 _ i k hd
/-- **Each order gets all that it asks for, of no worse grade.** -/
theorem row_full (h : Ordl O l) (ho : OIn n O) (h5 : n ≤ 5) (hM : ∀ j, 0 ≤ M j) (hc : canB n O M = true) {i : Nat} (hi : i < O.length) : rowG (giveG O M l).2 i = mAt O i ∧ ∀ k, grO O i < k → (giveG O M l).2 i k = none := by
  have him : i ∈ l := h.perm.mem_iff.2 (List.mem_range.2 hi)
  obtain ⟨l1, l2, rfl⟩ := List.append_of_mem him
  have hnd := h.nodup
  have hn2 : i ∉ l2 := fun hm => (List.nodup_cons.1 (List.nodup_append.1 hnd).2.1).1 hm
  have hn1 : i ∉ l1 := fun hm => (List.nodup_append.1 hnd).2.2 i hm i (by simp) rfl
  have hrow : ∀ k, (giveG O M (l1 ++ i :: l2)).2 i k = (orderG O (giveG O M l1) i).2 i k := giveG_split l1 l2 i hn2
  have hnone : ∀ k, (giveG O M l1).2 i k = none := fun k => orders_other l1 _ i k hn1
  have hg := ho.at_ hi
  have hdl : ∀ x ∈ downL (gAt O i).toNat, x < 5 ∧ (giveG O M l1).2 i x = none := fun x hx => by
    have := down_mem _ _ hx
    exact ⟨by omega, hnone x⟩
  constructor
  · have e1 : rowG (giveG O M (l1 ++ i :: l2)).2 i = rowG (orderG O (giveG O M l1) i).2 i := sumF_congr 5 fun k _ => by rw [hrow]
    rw [e1]
    have h2 := rowG_steps (downL (gAt O i).toNat) ⟨(giveG O M l1).1, mAt O i, (giveG O M l1).2⟩ (down_nodup _) hdl
    have h3 : rowG (giveG O M l1).2 i = 0 := by
      have : rowG (giveG O M l1).2 i = sumF (fun _ => 0) 5 := sumF_congr 5 fun k _ => by rw [hnone]; rfl
      rw [this]; rfl
    have h4 := (steps_take i (gAt O i).toNat (giveG O M l1).1 (mAt O i) (giveG O M l1).2).2
    have hsf := fill_part h ho hM hc l1 (i :: l2) rfl
    have hpair := h.pair ho
    have hok := h.ok ho
    have hask := fun k => asked_all ho h.perm k
    rw [osOf, List.map_append, List.map_cons] at hpair hok hask
    have h5 := (hsf.step hM (k := (gAt O i).toNat) (q := mAt O i) (by omega) hg.2.1 (fun o hom => (List.pairwise_append.1 hpair).2.2 o hom ((gAt O i).toNat, mAt O i) (by simp)) (fun o hom => (hok o (by simp [osOf] at hom ⊢; exact .inl hom)).2) ?_).1
    · have h6 : (giveG O M l1).1 = Gr9.fillG M (osOf O l1) := give_fill O l1 (M, fun _ _ => none)
      rw [h6] at h4
      rw [h5] at h4
      show rowG ((downL (gAt O i).toNat).foldl (stepG i) ⟨(giveG O M l1).1, mAt O i, (giveG O M l1).2⟩).F i = mAt O i
      rw [h6] at h2 ⊢
      simp only at h2
      rw [h3] at h2
      omega
    · have h6 := hask (gAt O i).toNat
      rw [Gr9.asked_app, Gr9.asked_cons, if_pos (Nat.le_refl _)] at h6
      have h7 := Gr9.asked_nonneg (os := l2.map fun i => ((gAt O i).toNat, mAt O i)) (fun o hom => (hok o (by simp at hom ⊢; exact .inr (.inr hom))).2) (gAt O i).toNat
      have h8 := can_pre hc (g := (gAt O i).toNat) (by omega)
      simp only at h6
      show Gr9.asked (l1.map _) _ + _ ≤ _
      omega
  · intro k hk
    rw [hrow]
    refine (steps_other _ _ i k (.inr fun hx => ?_)).trans (hnone k)
    have := down_mem _ _ hx
    unfold grO at hk
    omega
end
/-! ### The map without what is nothing -/
theorem getD_clean {F G : Nat → Nat → Option Int} (hF : ∀ f k, F f k = if G f k = some 0 then none else G f k) (f k : Nat) : (F f k).getD 0 = (G f k).getD 0 := by
  rw [hF]
  split
  · rename_i e; rw [e]; rfl
  · rfl
theorem gotG_clean {F G : Nat → Nat → Option Int} (hF : ∀ f k, F f k = if G f k = some 0 then none else G f k) (g : Nat) : gotG F g = gotG G g := sumF_congr 8 fun f _ => getD_clean hF f g
end Go.Proofs.Ytmfiggbobaihcaa
