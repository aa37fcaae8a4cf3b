/- Plain laws of the outright statements: cuts are a way, the first best ones are worth the most, prices that cover, tight cuts, two best cuts. No program. -/
import Derived.Test.YtjmphmnimnbgkaaCheckCuts
import Derived.Test.YtjmphmnimnbgkaaFirst
import Derived.Test.YtjmphmnimnbgkaaPath
import Derived.Test.YtjmphmnimnbgkaaPartedEq
namespace Go.Proofs.Ytjmphmnimnbgkaa
open Go.RowKit

/-- Cuts from a place on: each sheet can be cut, none begins before the end of the one before it. -/
inductive GoodL (L : Nat) (F : Nat → Int) (ks : List Kd) : Nat → List Sh → Prop
  | nil (i : Nat) : i ≤ L → GoodL L F ks i []
  | cons (i f k : Nat) (x : Kd) (l : List Sh) : i ≤ f → ks[k]? = some x → canB L F x f = true → GoodL L F ks (f + x.w.toNat) l → GoodL L F ks i (⟨f, k⟩ :: l)
/-- What cuts are worth. -/
def valL (ks : List Kd) (l : List Sh) : Int := (l.map fun s => (ks.getD s.k.toNat ⟨0, 0, 0⟩).p).sum
section
variable {L : Nat} {F : Nat → Int} {ks : List Kd}
theorem GoodL.len (hk : KOk ks) {i : Nat} {l : List Sh} (h : GoodL L F ks i l) : i + l.length ≤ L := by
  induction h with
  | nil i hi => simpa using hi
  | cons i f k x l hi hx hc _ ih =>
    have hb := hk.bd hx
    simp only [List.length_cons]
    omega
theorem GoodL.walk (hk : KOk ks) {i : Nat} {l : List Sh} (h : GoodL L F ks i l) : ∀ worth, walkCuts ks l i worth = (worth + valL ks l, 0) := by
  induction h with
  | nil i hi => intro worth; simp [walkCuts, valL]
  | cons i f k x l hi hx hc _ ih =>
    intro worth
    have hb := hk.bd hx
    have hgd : ks.getD k ⟨0, 0, 0⟩ = x := by simp [List.getD, hx]
    have e : ((f : Nat) : Int) + x.w = ((f + x.w.toNat : Nat) : Int) := by omega
    unfold walkCuts
    rw [if_neg (by show ¬ ((f : Nat) : Int) < (i : Int); omega)]
    show walkCuts ks l ((f : Int) + (ks.getD ((k : Nat) : Int).toNat ⟨0, 0, 0⟩).w) (worth + (ks.getD ((k : Nat) : Int).toNat ⟨0, 0, 0⟩).p) = _
    rw [Int.toNat_natCast, hgd, e, ih]
    unfold valL
    simp only [List.map_cons, List.sum_cons, Int.toNat_natCast, hgd, Int.add_assoc]
theorem GoodL.each {i : Nat} {l : List Sh} (h : GoodL L F ks i l) : ∀ s ∈ l, ∃ (f k : Nat) (x : Kd), s = ⟨f, k⟩ ∧ ks[k]? = some x ∧ canB L F x f = true := by
  induction h with
  | nil => simp
  | cons i f k x l hi hx hc _ ih =>
    intro s hs
    rcases List.mem_cons.1 hs with rfl | hs
    · exact ⟨f, k, x, rfl, hx, hc⟩
    · exact ih s hs
theorem GoodL.worth (hk : KOk ks) {l : List Sh} (h : GoodL L F ks 0 l) : cutsP L F ks l = (valL ks l, 0) := by
  have hl := h.len hk
  have hE := h.each
  unfold cutsP
  rw [if_neg (by omega), if_neg, if_neg]
  · have := h.walk hk 0
    rw [Int.zero_add] at this
    exact this
  · intro ha
    obtain ⟨s, hs, hb⟩ := List.any_eq_true.1 ha
    obtain ⟨f, k, x, rfl, hx, hc⟩ := hE s hs
    simp [canS, hx, hc] at hb
  · intro ha
    obtain ⟨s, hs, hb⟩ := List.any_eq_true.1 ha
    obtain ⟨f, k, x, rfl, hx, hc⟩ := hE s hs
    have hle := (canB_iff.1 hc).1
    have hbd := hk.bd hx
    have hkl := (List.getElem?_eq_some_iff.1 hx).1
    have h1 : inR 0 (L : Int) ((f : Nat) : Int) = true := (inR_iff _ _ _).2 ⟨by omega, by omega⟩
    have h2 : inR 0 ((ks.length : Int) - 1) ((k : Nat) : Int) = true := (inR_iff _ _ _).2 ⟨by omega, by omega⟩
    simp [oddB, h1, h2] at hb
theorem way_waste {i j e : Nat} {v : Int} (hij : i ≤ j) (hj : j ≤ L) (h : Way L F ks j e v) : Way L F ks i e v := by
  obtain ⟨d, rfl⟩ := Nat.exists_eq_add_of_le hij
  induction d with
  | zero => exact h
  | succ d ih => exact ih (by omega) (by omega) (.waste _ _ _ (by omega) (by rw [Nat.add_assoc]; exact h))
theorem GoodL.way (hk : KOk ks) {i : Nat} {l : List Sh} (h : GoodL L F ks i l) : Way L F ks i L (valL ks l) := by
  induction h with
  | nil i hi => exact way_waste hi (Nat.le_refl _) (.nil L)
  | cons i f k x l hi hx hc _ ih =>
    have hle := (canB_iff.1 hc).1
    have hbd := hk.bd hx
    have hgd : ks.getD k ⟨0, 0, 0⟩ = x := by simp [List.getD, hx]
    have e : valL ks (⟨f, k⟩ :: l) = x.p + valL ks l := by
      unfold valL
      simp only [List.map_cons, List.sum_cons, Int.toNat_natCast, hgd]
    rw [e]
    exact way_waste hi (by omega) (.sheet f L k x _ hx hc ih)
theorem GoodL.start {i j : Nat} {l : List Sh} (h : GoodL L F ks j l) (hij : i ≤ j) : GoodL L F ks i l := by
  cases h with
  | nil _ hj => exact .nil _ (by omega)
  | cons _ f k x l hi hx hc hr => exact .cons _ f k x l (by omega) hx hc hr
/-- The first best cuts can be cut, and are worth the most. -/
theorem first_good (hk : KOk ks) {Bh : Nat → Int} (hF : From L F ks Bh) : ∀ n i, L ≤ i + n → i ≤ L → GoodL L F ks i (firstAt L F ks Bh n i) ∧ valL ks (firstAt L F ks Bh n i) = Bh i := by
  intro n
  induction n with
  | zero =>
    intro i h1 h2
    obtain rfl : i = L := by omega
    exact ⟨.nil _ (Nat.le_refl _), by rw [hF.zero]; rfl⟩
  | succ n ih =>
    intro i h1 h2
    unfold firstAt
    by_cases hi : i < L
    · rw [if_pos hi]
      cases hfd : ((List.range ks.length).filter (canI L F ks i)).find? (tieB ks Bh i) with
      | some k =>
        have hm := List.mem_of_find?_eq_some hfd
        have ht := List.find?_some hfd
        obtain ⟨x, hx, hc, hd⟩ := canI_at (by simpa using (List.mem_filter.1 hm).2 : canI L F ks i k = true)
        have hle := (canB_iff.1 hc).1
        have hbd := hk.bd hx
        unfold tieB at ht
        rw [hd] at ht
        simp only [beq_iff_eq] at ht
        obtain ⟨g1, g2⟩ := ih (i + x.w.toNat) (by omega) (by omega)
        simp only [hd]
        refine ⟨.cons i i k x _ (Nat.le_refl _) hx hc g1, ?_⟩
        have e : ∀ l, valL ks (⟨i, k⟩ :: l) = x.p + valL ks l := fun l => by
          unfold valL
          simp only [List.map_cons, List.sum_cons, Int.toNat_natCast, hd]
        rw [e, g2]
        exact ht
      | none =>
        obtain ⟨g1, g2⟩ := ih (i + 1) (by omega) (by omega)
        refine ⟨g1.start (by omega), ?_⟩
        rw [g2]
        have key : ∀ e v, Way L F ks i e v → e = L → v = Bh i → Bh (i + 1) = Bh i := by
          intro e v hw he hv
          cases hw with
          | nil => omega
          | waste _ _ _ hl hr =>
            rw [he] at hr
            have a1 := hF.le hr
            have a2 := hF.waste i hi
            have a3 := hF.zero
            omega
          | sheet _ _ k x v' hx hc hr =>
            rw [he] at hr
            have a1 := hF.le hr
            have a2 := hF.sheet i k x hx hc
            have a3 := hF.zero
            exfalso
            have hgd : ks.getD k ⟨0, 0, 0⟩ = x := by simp [List.getD, hx]
            have hci : canI L F ks i k = true := by unfold canI; rw [hx]; exact hc
            have hno := List.find?_eq_none.1 hfd k (List.mem_filter.2 ⟨List.mem_range.2 (List.getElem?_eq_some_iff.1 hx).1, hci⟩)
            apply hno
            unfold tieB
            rw [hgd]
            simp only [beq_iff_eq]
            omega
        exact key L _ (hF.way i (by omega)) rfl rfl
    · obtain rfl : i = L := by omega
      rw [if_neg hi]
      exact ⟨.nil _ (Nat.le_refl _), by rw [hF.zero]; rfl⟩
/-- The program's best cuts, by the law of cuts. -/
theorem cuts_first (hk : KOk ks) : cutsP L F ks (firstAt L F ks (behindAt L F ks L) L 0) = (behindAt L F ks L 0, 0) := by
  obtain ⟨g1, g2⟩ := first_good hk (behind_from (L := L) (F := F) hk) L 0 (by omega) (Nat.zero_le _)
  rw [g1.worth hk, g2]
/-- No cuts are worth more than the most. -/
theorem GoodL.le (hk : KOk ks) {l : List Sh} (h : GoodL L F ks 0 l) : valL ks l ≤ behindAt L F ks L 0 := by
  have hF := behind_from (L := L) (F := F) hk
  have := hF.le (h.way hk)
  have := hF.zero
  omega
end

theorem sum_ge_one {α : Type} (f : α → Int) : ∀ l : List α, (∀ x ∈ l, 0 ≤ f x) → ∀ a ∈ l, f a ≤ (l.map f).sum
  | [], _, a, ha => by simp at ha
  | x :: l, h, a, ha => by
    simp only [List.map_cons, List.sum_cons]
    have h1 := h x (by simp)
    have h2 := sum_nn f l (fun y hy => h y (by simp [hy]))
    rcases List.mem_cons.1 ha with rfl | ha
    · omega
    · have := sum_ge_one f l (fun y hy => h y (by simp [hy])) a ha
      omega
theorem sum_ge_two {α : Type} (f : α → Int) : ∀ l : List α, (∀ x ∈ l, 0 ≤ f x) → ∀ a b, a ≠ b → a ∈ l → b ∈ l → f a + f b ≤ (l.map f).sum
  | [], _, a, b, _, ha, _ => by simp at ha
  | x :: l, h, a, b, hab, ha, hb => by
    simp only [List.map_cons, List.sum_cons]
    have h1 := h x (by simp)
    have h' : ∀ y ∈ l, 0 ≤ f y := fun y hy => h y (by simp [hy])
    rcases List.mem_cons.1 ha with h3 | h3
    · rcases List.mem_cons.1 hb with h4 | h4
      · exact absurd (h3.trans h4.symm) hab
      · have := sum_ge_one f l h' b h4
        rw [← h3]; omega
    · rcases List.mem_cons.1 hb with h4 | h4
      · have := sum_ge_one f l h' a h3
        rw [← h4]; omega
      · have := sum_ge_two f l h' a b hab h3 h4
        omega
section
variable {L : Nat} {F : Nat → Int} {ks : List Kd}
/-- Prices that prove something cover each sheet. -/
theorem pricesP_ok {ps : List Int} (h : (pricesP L F ks ps).2 = 0) : ps.length = L ∧ ps.any outP = false ∧ coverB L F ks (psum ps) = true ∧ (pricesP L F ks ps).1 = psum ps L := by
  unfold pricesP at h ⊢
  split at h
  · cases h
  · split at h
    · cases h
    · split at h
      · rename_i h1 h2 h3
        rw [if_neg h1, if_neg h2, if_pos h3]
        exact ⟨by omega, by simpa using h2, h3, rfl⟩
      · cases h
theorem cover_way (hk : KOk ks) {ps : List Int} (h1 : ps.length = L) (h2 : ps.any outP = false) (h3 : coverB L F ks (psum ps) = true) {i j : Nat} {v : Int} (h : Way L F ks i j v) : j ≤ L → v ≤ psum ps j - psum ps i := by
  have ho : ∀ i x, ps[i]? = some x → outP x = false := fun i x hx => by
    cases hb : outP x with
    | false => rfl
    | true => rw [← h2]; exact (List.any_eq_true.2 ⟨x, List.mem_of_getElem? hx, hb⟩).symm
  induction h with
  | nil i => intro _; omega
  | waste i e v hl hw ih =>
    intro he
    obtain ⟨x, hx⟩ : ∃ x, ps[i]? = some x := ⟨_, List.getElem?_eq_getElem (by omega)⟩
    have h4 := psum_succ hx
    have h5 := ho i x hx
    simp only [outP, Bool.or_eq_false_iff, decide_eq_false_iff_not] at h5
    have := ih he
    omega
  | sheet i e k x v hx hc hw ih =>
    intro he
    have hle := (canB_iff.1 hc).1
    have hbd := hk.bd hx
    have hgd : ks.getD k ⟨0, 0, 0⟩ = x := by simp [List.getD, hx]
    have h4 := List.all_eq_true.1 (List.all_eq_true.1 h3 i (List.mem_range.2 (by omega))) k (List.mem_range.2 (List.getElem?_eq_some_iff.1 hx).1)
    unfold coverAt canI at h4
    rw [hx, hgd] at h4
    simp only [hc, Bool.not_true, Bool.false_or, decide_eq_true_eq] at h4
    have := ih he
    omega
theorem prices_bound (hk : KOk ks) {ps : List Int} (h : (pricesP L F ks ps).2 = 0) {v : Int} (hw : Way L F ks 0 L v) : v ≤ (pricesP L F ks ps).1 := by
  obtain ⟨h1, h2, h3, h4⟩ := pricesP_ok h
  have := cover_way hk h1 h2 h3 hw (Nat.le_refl _)
  rw [h4]
  rw [psum_zero] at this
  omega
theorem prices_best (hk : KOk ks) {ps : List Int} (h : (pricesP L F ks ps).2 = 0) : behindAt L F ks L 0 ≤ (pricesP L F ks ps).1 :=
  prices_bound hk h ((behind_from (L := L) (F := F) hk).way 0 (Nat.zero_le _))

/-- In best cuts each step is tight. -/
inductive TightL (L : Nat) (ks : List Kd) (A : Nat → Int) : Nat → List Sh → Prop
  | nil (i : Nat) : i ≤ L → (∀ j, i ≤ j → j < L → A (j + 1) = A j) → TightL L ks A i []
  | cons (i f k : Nat) (x : Kd) (l : List Sh) : i ≤ f → f + x.w.toNat ≤ L → ks[k]? = some x → (∀ j, i ≤ j → j < f → A (j + 1) = A j) → A (f + x.w.toNat) - A f = x.p → TightL L ks A (f + x.w.toNat) l → TightL L ks A i (⟨f, k⟩ :: l)
theorem flat_of {A : Nat → Int} (hm : ∀ j, j < L → A j ≤ A (j + 1)) {a b : Nat} (hab : a ≤ b) (hb : b ≤ L) : A a ≤ A b ∧ (A b = A a → ∀ j, a ≤ j → j < b → A (j + 1) = A j) := by
  obtain ⟨d, rfl⟩ := Nat.exists_eq_add_of_le hab
  induction d with
  | zero => exact ⟨Int.le_refl _, fun _ j h1 h2 => by omega⟩
  | succ d ih =>
    obtain ⟨i1, i2⟩ := ih (by omega) (by omega)
    have h1 := hm (a + d) (by omega)
    rw [← Nat.add_assoc]
    refine ⟨by omega, fun he j hj1 hj2 => ?_⟩
    by_cases e : j = a + d
    · subst e; omega
    · exact i2 (by omega) j hj1 (by omega)
theorem GoodL.tight (hk : KOk ks) {A : Nat → Int} (hU : UpTo L F ks A) {i : Nat} {l : List Sh} (h : GoodL L F ks i l) : A i + valL ks l = A L → TightL L ks A i l := by
  induction h with
  | nil i hi =>
    intro he
    refine .nil i hi ?_
    have := (flat_of hU.waste hi (Nat.le_refl L)).2
    exact this (by simp [valL] at he; omega)
  | cons i f k x l hi hx hc hr ih =>
    intro he
    have hle := (canB_iff.1 hc).1
    have hbd := hk.bd hx
    have hgd : ks.getD k ⟨0, 0, 0⟩ = x := by simp [List.getD, hx]
    have e : valL ks (⟨f, k⟩ :: l) = x.p + valL ks l := by
      unfold valL
      simp only [List.map_cons, List.sum_cons, Int.toNat_natCast, hgd]
    rw [e] at he
    have h1 := hU.le (hr.way hk)
    have h2 := hU.sheet f k x hx hc
    obtain ⟨h3, h4⟩ := flat_of hU.waste hi (show f ≤ L by omega)
    exact .cons i f k x l hi (by omega) hx (h4 (by omega)) (by omega) (ih (by omega))

/-- Two best cuts that differ: there is more than one. -/
theorem two_best (hk : KOk ks) {Bh M : Nat → Int} (hF : From L F ks Bh) (c : Cnt L F ks Bh M) : ∀ d i, d + i = L → ∀ l1 l2, GoodL L F ks i l1 → GoodL L F ks i l2 → valL ks l1 = Bh i → valL ks l2 = Bh i → l1 ≠ l2 → 2 ≤ M i := by
  intro d
  induction d using Nat.strongRecOn with
  | _ d ih =>
    intro i hdi l1 l2 g1 g2 v1 v2 hne
    have hval : ∀ (f k : Nat) (x : Kd) (l : List Sh), ks[k]? = some x → valL ks (⟨f, k⟩ :: l) = x.p + valL ks l := fun f k x l hx => by
      have hgd : ks.getD k ⟨0, 0, 0⟩ = x := by simp [List.getD, hx]
      unfold valL
      simp only [List.map_cons, List.sum_cons, Int.toNat_natCast, hgd]
    have hz := hF.zero
    by_cases hi : i < L
    · have hpos : ∀ k ∈ List.range ks.length, (0 : Int) ≤ if tieT L F ks Bh i k then M (i + (ks.getD k ⟨0, 0, 0⟩).w.toNat) else 0 := by
        intro k _
        split
        · rename_i ht
          unfold tieT at ht
          simp only [Bool.and_eq_true] at ht
          obtain ⟨x, hx, hc, hd⟩ := canI_at ht.1
          have hb := hk.bd hx
          have hle := (canB_iff.1 hc).1
          rw [hd]
          have := c.pos hk hF (L - (i + x.w.toNat)) (i + x.w.toNat) (by omega)
          omega
        · exact Int.le_refl _
      -- each list is a sheet here, or waste here
      have hcase : ∀ l, GoodL L F ks i l → valL ks l = Bh i → (∃ (k : Nat) (x : Kd) (l' : List Sh), l = ⟨i, k⟩ :: l' ∧ ks[k]? = some x ∧ canB L F x i = true ∧ GoodL L F ks (i + x.w.toNat) l' ∧ x.p + Bh (i + x.w.toNat) = Bh i ∧ valL ks l' = Bh (i + x.w.toNat)) ∨ (GoodL L F ks (i + 1) l ∧ Bh (i + 1) = Bh i ∧ (∀ (k : Nat) l', l ≠ ⟨i, k⟩ :: l')) := by
        intro l g hv
        have hw := g.way hk
        cases g with
        | nil _ hiL =>
          right
          have h1 : GoodL L F ks (i + 1) ([] : List Sh) := .nil _ (by omega)
          have h2 := hF.le (h1.way hk)
          have h3 := hF.waste i hi
          exact ⟨h1, by omega, fun k l' h => by cases h⟩
        | cons _ f k x l' hif hx hc hr =>
          have hb := hk.bd hx
          have hle := (canB_iff.1 hc).1
          by_cases e : f = i
          · subst e
            left
            have h1 := hF.le (hr.way hk)
            have h2 := hF.sheet f k x hx hc
            rw [hval f k x l' hx] at hv
            exact ⟨k, x, l', rfl, hx, hc, hr, by omega, by omega⟩
          · right
            have h1 : GoodL L F ks (i + 1) (⟨f, k⟩ :: l') := .cons _ f k x l' (by omega) hx hc hr
            have h2 := hF.le (h1.way hk)
            have h3 := hF.waste i hi
            refine ⟨h1, by omega, fun k' l'' h => ?_⟩
            simp only [List.cons.injEq, Sh.mk.injEq] at h
            omega
      have hsheet : ∀ (k : Nat) (x : Kd), ks[k]? = some x → canB L F x i = true → x.p + Bh (i + x.w.toNat) = Bh i → tieT L F ks Bh i k = true ∧ ks.getD k ⟨0, 0, 0⟩ = x := fun k x hx hc ht => by
        have hgd : ks.getD k ⟨0, 0, 0⟩ = x := by simp [List.getD, hx]
        refine ⟨?_, hgd⟩
        unfold tieT canI nK
        rw [hx, hgd]
        simp [hc, ht]
      have hterm : ∀ (k : Nat) (x : Kd), ks[k]? = some x → canB L F x i = true → x.p + Bh (i + x.w.toNat) = Bh i → M (i + x.w.toNat) ≤ ((List.range ks.length).map fun k => if tieT L F ks Bh i k then M (i + (ks.getD k ⟨0, 0, 0⟩).w.toNat) else 0).sum := fun k x hx hc ht => by
        obtain ⟨t1, t2⟩ := hsheet k x hx hc ht
        have := sum_ge_one _ _ hpos k (List.mem_range.2 (List.getElem?_eq_some_iff.1 hx).1)
        rw [if_pos t1, t2] at this
        exact this
      have hs0 := sum_nn _ _ hpos
      rw [c.sum hi]
      rcases hcase l1 g1 v1 with ⟨k1, x1, t1, e1, hx1, hc1, r1, tie1, w1⟩ | ⟨r1, tie1, n1⟩
      · have hb1 := hk.bd hx1
        have hle1 := (canB_iff.1 hc1).1
        have p1 := c.pos hk hF (L - (i + x1.w.toNat)) (i + x1.w.toNat) (by omega)
        have q1 := hterm k1 x1 hx1 hc1 tie1
        rcases hcase l2 g2 v2 with ⟨k2, x2, t2, e2, hx2, hc2, r2, tie2, w2⟩ | ⟨r2, tie2, n2⟩
        · have hb2 := hk.bd hx2
          have hle2 := (canB_iff.1 hc2).1
          have p2 := c.pos hk hF (L - (i + x2.w.toNat)) (i + x2.w.toNat) (by omega)
          by_cases hkk : k1 = k2
          · subst hkk
            rw [hx1] at hx2
            cases hx2
            have hne2 : t1 ≠ t2 := fun h => hne (by rw [e1, e2, h])
            have := ih (L - (i + x1.w.toNat)) (by omega) (i + x1.w.toNat) (by omega) t1 t2 r1 r2 w1 w2 hne2
            split
            · have := c.pos hk hF (L - (i + 1)) (i + 1) (by omega); omega
            · omega
          · obtain ⟨a1, a2⟩ := hsheet k1 x1 hx1 hc1 tie1
            obtain ⟨b1, b2⟩ := hsheet k2 x2 hx2 hc2 tie2
            have := sum_ge_two _ _ hpos k1 k2 hkk (List.mem_range.2 (List.getElem?_eq_some_iff.1 hx1).1) (List.mem_range.2 (List.getElem?_eq_some_iff.1 hx2).1)
            rw [if_pos a1, a2, if_pos b1, b2] at this
            split
            · have := c.pos hk hF (L - (i + 1)) (i + 1) (by omega); omega
            · omega
        · have := c.pos hk hF (L - (i + 1)) (i + 1) (by omega)
          rw [if_pos tie2]
          omega
      · have pw := c.pos hk hF (L - (i + 1)) (i + 1) (by omega)
        rw [if_pos tie1]
        rcases hcase l2 g2 v2 with ⟨k2, x2, t2, e2, hx2, hc2, r2, tie2, w2⟩ | ⟨r2, tie2, n2⟩
        · have hb2 := hk.bd hx2
          have hle2 := (canB_iff.1 hc2).1
          have p2 := c.pos hk hF (L - (i + x2.w.toNat)) (i + x2.w.toNat) (by omega)
          have q2 := hterm k2 x2 hx2 hc2 tie2
          omega
        · have := ih (L - (i + 1)) (by omega) (i + 1) (by omega) l1 l2 r1 r2 (by omega) (by omega) hne
          omega
    · exfalso
      obtain rfl : i = L := by omega
      have z1 := g1.len hk
      have z2 := g2.len hk
      have : l1.length = 0 := by omega
      have : l2.length = 0 := by omega
      rw [List.length_eq_zero_iff] at *
      apply hne
      rw [‹l1 = []›, ‹l2 = []›]
end
end Go.Proofs.Ytjmphmnimnbgkaa
