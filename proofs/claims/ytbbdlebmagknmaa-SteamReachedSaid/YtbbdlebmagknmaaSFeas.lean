/- Logs that can be steamed in given loads: those that have to be steamed first are taken first. No program. -/
import Derived.Test.YtbbdlebmagknmaaSPlain3
namespace Go.Proofs.Ytbbdlebmagknmaa
open Go.RowKit Go.Shelf

section
variable {α : Type} (lo hi : α → Int)
/-- So many rooms, each at its hour, are enough for some logs. -/
inductive Feas : List Int → List α → Prop
  | nil : Feas [] []
  | skip (t : Int) (ts : List Int) (ls : List α) : Feas ts ls → Feas (t :: ts) ls
  | use (t : Int) (ts : List Int) (r : α) (ls ls' : List α) : ls.Perm (r :: ls') → lo r ≤ t → t ≤ hi r → Feas ts ls' → Feas (t :: ts) ls
variable {lo hi}
theorem Feas.perm {ts : List Int} {ls ls' : List α} (h : Feas lo hi ts ls) (hp : ls.Perm ls') : Feas lo hi ts ls' := by
  induction h generalizing ls' with
  | nil => rw [List.nil_perm.1 hp]; exact .nil
  | skip t ts ls _ ih => exact .skip t ts _ (ih hp)
  | use t ts r ls l2 h1 h2 h3 h4 => exact .use t ts r _ l2 (hp.symm.trans h1) h2 h3 h4
/-- Two ways to name a log of a list. -/
theorem two_ways {r s : α} {a b : List α} (h : (r :: a).Perm (s :: b)) (hne : r ≠ s) : ∃ c, a.Perm (s :: c) ∧ b.Perm (r :: c) := by
  have hm : s ∈ a := by
    have := h.symm.mem_iff.1 (List.mem_cons_self (a := s) (l := b))
    rcases List.mem_cons.1 this with e | e
    · exact absurd e.symm hne
    · exact e
  obtain ⟨x, y, rfl⟩ := List.append_of_mem hm
  have h1 : (x ++ s :: y).Perm (s :: (x ++ y)) := List.perm_middle
  refine ⟨x ++ y, h1, ?_⟩
  have h2 : (s :: b).Perm (s :: r :: (x ++ y)) := h.symm.trans ((h1.cons r).trans (.swap _ _ _))
  exact h2.cons_inv
theorem Feas.less {ts : List Int} {ls : List α} (h : Feas lo hi ts ls) : ∀ {r : α} {l1 : List α}, ls.Perm (r :: l1) → Feas lo hi ts l1 := by
  induction h with
  | nil => intro r l1 hp; exact absurd (List.nil_perm.1 hp) (by simp)
  | skip t ts ls _ ih => intro r l1 hp; exact .skip t ts _ (ih hp)
  | use t ts s ls l2 h1 h2 h3 h4 ih =>
    intro r l1 hp
    have h5 := hp.symm.trans h1
    by_cases e : r = s
    · subst e
      exact .skip t ts _ (h4.perm h5.cons_inv.symm)
    · obtain ⟨c, c1, c2⟩ := two_ways h5 e
      exact .use t ts s _ c c1 h2 h3 (ih c2)
theorem Feas.repl {ts : List Int} {ls : List α} (h : Feas lo hi ts ls) : ∀ {b r : α} {l1 : List α}, ls.Perm (b :: l1) → (∀ s ∈ ts, lo r ≤ s) → hi b ≤ hi r → Feas lo hi ts (r :: l1) := by
  induction h with
  | nil => intro b r l1 hp; exact absurd (List.nil_perm.1 hp) (by simp)
  | skip t ts ls _ ih => intro b r l1 hp hl hh; exact .skip t ts _ (ih hp (fun s hs => hl s (by simp [hs])) hh)
  | use t ts s ls l2 h1 h2 h3 h4 ih =>
    intro b r l1 hp hl hh
    have h5 := hp.symm.trans h1
    by_cases e : b = s
    · subst e
      exact .use t ts r _ l1 (List.Perm.refl _) (hl t (by simp)) (by omega) (h4.perm h5.cons_inv.symm)
    · obtain ⟨c, c1, c2⟩ := two_ways h5 e
      exact .use t ts s _ (r :: c) ((c1.cons r).trans (.swap _ _ _)) h2 h3 (ih c2 (fun x hx => hl x (by simp [hx])) hh)
/-- The one that has to be steamed first can be taken first. -/
theorem Feas.first {t : Int} {ts : List Int} {ls l1 : List α} {b : α} (h : Feas lo hi (t :: ts) ls) (hs : ∀ s ∈ ts, t ≤ s) (hp : ls.Perm (b :: l1)) (hmin : ∀ x ∈ ls, lo x ≤ t → t ≤ hi x → hi b ≤ hi x) : Feas lo hi ts l1 := by
  cases h with
  | skip _ _ _ h => exact h.less hp
  | use _ _ r _ l2 h1 h2 h3 h4 =>
    have h5 := hp.symm.trans h1
    by_cases e : b = r
    · subst e
      exact h4.perm h5.cons_inv.symm
    · obtain ⟨c, c1, c2⟩ := two_ways h5 e
      have h6 := hmin r (h1.mem_iff.2 (by simp)) h2 h3
      exact (h4.repl c2 (fun s hs' => Int.le_trans h2 (hs s hs')) h6).perm c1.symm
theorem Feas.none {t : Int} {ts : List Int} {ls : List α} (h : Feas lo hi (t :: ts) ls) (hno : ∀ x ∈ ls, lo x ≤ t → ¬ (t ≤ hi x)) : Feas lo hi ts ls := by
  cases h with
  | skip _ _ _ h => exact h
  | use _ _ r _ l2 h1 h2 h3 h4 => exact absurd h3 (hno r (h1.mem_iff.2 (by simp)) h2)
theorem Feas.slots {ts ts' : List Int} (hp : ts.Perm ts') : ∀ {ls : List α}, Feas lo hi ts ls → Feas lo hi ts' ls := by
  induction hp with
  | nil => intro ls h; exact h
  | cons t _ ih =>
    intro ls h
    cases h with
    | skip _ _ _ h => exact .skip _ _ _ (ih h)
    | use _ _ r _ l2 h1 h2 h3 h4 => exact .use _ _ r _ l2 h1 h2 h3 (ih h4)
  | swap a b ts =>
    intro ls h
    cases h with
    | skip _ _ _ h =>
      cases h with
      | skip _ _ _ h => exact .skip _ _ _ (.skip _ _ _ h)
      | use _ _ r _ l2 h1 h2 h3 h4 => exact .use _ _ r _ l2 h1 h2 h3 (.skip _ _ _ h4)
    | use _ _ r _ l2 h1 h2 h3 h =>
      cases h with
      | skip _ _ _ h => exact .skip _ _ _ (.use _ _ r _ l2 h1 h2 h3 h)
      | use _ _ s _ l3 g1 g2 g3 g4 => exact .use _ _ s _ (r :: l3) (h1.trans ((g1.cons r).trans (.swap _ _ _))) g2 g3 (.use _ _ r _ l3 (List.Perm.refl _) h2 h3 g4)
  | trans _ _ i1 i2 => intro ls h; exact i2 (i1 h)
theorem Feas.done {ls : List α} (h : Feas lo hi [] ls) : ls = [] := by cases h; rfl
/-- The rooms of loads. -/
def roomsOf (L : Nat) (ts : List Int) : List Int := ts.flatMap fun t => List.replicate L t
theorem feas_skips (n : Nat) (t : Int) {ts : List Int} {ls : List α} (h : Feas lo hi ts ls) : Feas lo hi (List.replicate n t ++ ts) ls := by
  induction n with
  | zero => exact h
  | succ n ih => rw [List.replicate_succ, List.cons_append]; exact .skip _ _ _ ih
theorem feas_take (t : Int) {ts : List Int} : ∀ (l : List α) (n : Nat) (ex : List α), (∀ y ∈ l, t ≤ hi y) → Feas lo hi ts (ex ++ (Fill.takeL lo t n l).2) → Feas lo hi (List.replicate n t ++ ts) (ex ++ l)
  | [], n, ex, _, h => feas_skips n t (by cases n <;> exact h)
  | x :: l, 0, ex, _, h => h
  | x :: l, n + 1, ex, hh, h => by
    unfold Fill.takeL at h
    by_cases c : t < lo x
    · rw [if_pos c] at h
      have h2 := feas_take t l (n + 1) (ex ++ [x]) (fun y hy => hh y (by simp [hy])) (by rw [List.append_assoc]; exact h)
      rw [List.append_assoc] at h2
      exact h2
    · rw [if_neg c] at h
      have h2 := feas_take t l n ex (fun y hy => hh y (by simp [hy])) h
      rw [List.replicate_succ, List.cons_append]
      exact .use t _ x _ (ex ++ l) List.perm_middle (by omega) (hh x (by simp)) h2
theorem feas_fill (L : Nat) (hL : 1 ≤ L) : ∀ (f : Nat) (l : List α), l.Pairwise (fun a b => hi a ≤ hi b) → (∀ x ∈ l, lo x ≤ hi x) → l.length ≤ f → Feas lo hi (roomsOf L (Fill.fillL lo hi L f l)) l
  | 0, l, _, _, h => by
    obtain rfl : l = [] := List.length_eq_zero_iff.1 (by omega)
    exact .nil
  | f + 1, [], _, _, _ => .nil
  | f + 1, x :: l, hs, hx, hf => by
    have hsub := Fill.takeL_sub lo (hi x) (x :: l) L
    have hlen : (Fill.takeL lo (hi x) L (x :: l)).2.length ≤ l.length := by
      obtain ⟨k, rfl⟩ : ∃ k, L = k + 1 := ⟨L - 1, by omega⟩
      unfold Fill.takeL
      rw [if_neg (by have := hx x (by simp); omega)]
      exact (Fill.takeL_sub lo (hi x) l k).length_le
    have ih := feas_fill L hL f (Fill.takeL lo (hi x) L (x :: l)).2 (hs.sublist hsub) (fun y hy => hx y (hsub.subset hy)) (by simp only [List.length_cons] at hf; omega)
    unfold Fill.fillL roomsOf
    rw [List.flatMap_cons]
    refine feas_take (hi x) (x :: l) L [] (fun y hy => ?_) ih
    rcases List.mem_cons.1 hy with rfl | hy
    · exact Int.le_refl _
    · exact (List.pairwise_cons.1 hs).1 y hy
theorem Feas.back {lo' hi' : α → Int} {ts : List Int} {ls : List α} (h : Feas lo hi ts ls) : (∀ x ∈ ls, lo' x = 100 - hi x ∧ hi' x = 100 - lo x) → Feas lo' hi' (ts.map fun t => 100 - t) ls := by
  induction h with
  | nil => intro _; exact .nil
  | skip t ts ls _ ih => intro hb; exact .skip _ _ _ (ih hb)
  | use t ts r ls l2 h1 h2 h3 _ ih =>
    intro hb
    have := hb r (h1.mem_iff.2 (by simp))
    exact .use (100 - t) _ r _ l2 h1 (by omega) (by omega) (ih fun x hx => hb x (h1.mem_iff.2 (by simp [hx])))
end
theorem rooms_back (L : Nat) (ts : List Int) : ((roomsOf L ts).map fun t => 100 - t).Perm (roomsOf L (ts.reverse.map fun t => 100 - t)) := by
  have h1 : (roomsOf L ts).map (fun t => 100 - t) = roomsOf L (ts.map fun t => 100 - t) := by
    unfold roomsOf
    rw [List.map_flatMap, List.flatMap_map]
    congr 1
    funext t
    rw [List.map_replicate]
  rw [h1, List.map_reverse]
  unfold roomsOf
  exact List.Perm.flatMap_right _ (List.reverse_perm _).symm
/-- The late loads are enough, and so are the early ones. -/
theorem late_feas {rs : List Rg} {L : Nat} (hr : RsOk rs) (hL : 1 ≤ L) : Feas (loAt rs) (hiAt rs) (roomsOf L (lateOf rs L)) (List.range rs.length) := by
  have hb : ∀ x ∈ List.range rs.length, 0 ≤ loAt rs x ∧ loAt rs x ≤ hiAt rs x ∧ hiAt rs x ≤ 100 := fun x hx => hr.at_ (List.mem_range.1 hx)
  obtain ⟨l, hl⟩ : ∃ l, (List.range rs.length).mergeSort (fun a b => decide (hiAt rs a ≤ hiAt rs b)) = l := ⟨_, rfl⟩
  have hp : l.Perm (List.range rs.length) := hl ▸ List.mergeSort_perm _ _
  have hs : l.Pairwise (fun a b => hiAt rs a ≤ hiAt rs b) := by
    have h := List.pairwise_mergeSort (le := fun a b : Nat => decide (hiAt rs a ≤ hiAt rs b)) (fun a b c h1 h2 => by simp at *; omega) (fun a b => by simp; omega) (List.range rs.length)
    rw [hl] at h
    exact h.imp fun h => by simpa using h
  have h1 := Fill.late_fill (loAt rs) (hiAt rs) L hL (List.range rs.length) l hb hs (fun x hx => hp.mem_iff.1 hx) (fun p => hp.countP_eq p) l.length (Nat.le_refl _)
  rw [la_fill] at h1
  have h2 : lateOf rs L = Fill.fillL (loAt rs) (hiAt rs) L l.length l := by
    rw [← h1]
    exact (late_congr 101 fun j hj => least_low rs L 101 j hj).symm
  rw [h2]
  exact (feas_fill L hL l.length l hs (fun x hx => (hb x (hp.mem_iff.1 hx)).2.1) (Nat.le_refl _)).perm hp
theorem early_feas {rs : List Rg} {L : Nat} (hr : RsOk rs) (hL : 1 ≤ L) : Feas (loAt rs) (hiAt rs) (roomsOf L (earlyOf rs L)) (List.range rs.length) := by
  have h := late_feas (back_ok hr) hL
  have hlen : (backP rs).length = rs.length := by simp [backP]
  rw [hlen] at h
  have h2 := h.back (lo' := loAt rs) (hi' := hiAt rs) (fun x hx => by
    have hx' := List.mem_range.1 hx
    unfold loAt hiAt backP
    simp [List.getD, hx', backR]
    omega)
  unfold earlyOf
  exact h2.slots (rooms_back L _)

/-! ### What is chosen -/
/-- A log can be taken now. -/
def canT (rs : List Rg) (D : Nat → Int) (t : Int) (i : Nat) : Prop := D i = 0 ∧ loAt rs i ≤ t ∧ t ≤ hiAt rs i
instance (rs : List Rg) (D : Nat → Int) (t : Int) (i : Nat) : Decidable (canT rs D t i) := by unfold canT; infer_instance
/-- The one of the first logs that is taken. -/
def bestTo (rs : List Rg) (D : Nat → Int) (t : Int) : Nat → Int
  | 0 => -1
  | i + 1 => if canT rs D t i ∧ (bestTo rs D t i < 0 ∨ hiAt rs i < hiAt rs (bestTo rs D t i).toNat) then (i : Int) else bestTo rs D t i
theorem best_spec (rs : List Rg) (D : Nat → Int) (t : Int) : ∀ i : Nat, (bestTo rs D t i = -1 ∧ ∀ j, j < i → ¬ canT rs D t j) ∨ ∃ b : Nat, b < i ∧ bestTo rs D t i = (b : Int) ∧ canT rs D t b ∧ ∀ j, j < i → canT rs D t j → hiAt rs b ≤ hiAt rs j
  | 0 => .inl ⟨rfl, fun j hj => by omega⟩
  | i + 1 => by
    unfold bestTo
    rcases best_spec rs D t i with ⟨h1, h2⟩ | ⟨b, hb, h1, h2, h3⟩
    · rw [h1]
      by_cases c : canT rs D t i
      · rw [if_pos ⟨c, .inl (by omega)⟩]
        exact .inr ⟨i, by omega, rfl, c, fun j hj hc => by
          by_cases e : j = i
          · rw [e]; exact Int.le_refl _
          · exact absurd hc (h2 j (by omega))⟩
      · rw [if_neg (fun h => c h.1)]
        exact .inl ⟨rfl, fun j hj => by
          by_cases e : j = i
          · rw [e]; exact c
          · exact h2 j (by omega)⟩
    · rw [h1, Int.toNat_natCast]
      by_cases c : canT rs D t i ∧ ((b : Int) < 0 ∨ hiAt rs i < hiAt rs b)
      · rw [if_pos c]
        exact .inr ⟨i, by omega, rfl, c.1, fun j hj hc => by
          by_cases e : j = i
          · rw [e]; exact Int.le_refl _
          · have := h3 j (by omega) hc
            rcases c.2 with h | h <;> omega⟩
      · rw [if_neg c]
        exact .inr ⟨b, by omega, rfl, h2, fun j hj hc => by
          by_cases e : j = i
          · subst e
            apply Classical.byContradiction
            intro hn
            exact c ⟨hc, .inr (by omega)⟩
          · exact h3 j (by omega) hc⟩
/-- The logs that are left. -/
def leftI (n : Nat) (D : Nat → Int) : List Nat := (List.range n).filter fun i => decide (D i = 0)
theorem left_take {n b : Nat} {D : Nat → Int} (hb : b < n) (h0 : D b = 0) : (leftI n D).Perm (b :: leftI n (updN D b 1)) := by
  have hm : b ∈ leftI n D := by unfold leftI; simp [hb, h0]
  have hnd : (leftI n D).Nodup := List.nodup_range.sublist List.filter_sublist
  have h1 := List.perm_cons_erase hm
  rw [hnd.erase_eq_filter] at h1
  refine h1.trans (List.Perm.of_eq ?_)
  congr 1
  unfold leftI
  rw [List.filter_filter]
  refine List.filter_congr fun i _ => ?_
  by_cases e : i = b
  · subst e; simp [updN]
  · simp [updN, e]
/-- One room. -/
theorem room_step {rs : List Rg} {D : Nat → Int} {t : Int} {ts : List Int} (h : Feas (loAt rs) (hiAt rs) (t :: ts) (leftI rs.length D)) (hs : ∀ s ∈ ts, t ≤ s) :
    (bestTo rs D t rs.length = -1 ∧ Feas (loAt rs) (hiAt rs) ts (leftI rs.length D)) ∨ ∃ b : Nat, b < rs.length ∧ bestTo rs D t rs.length = (b : Int) ∧ Feas (loAt rs) (hiAt rs) ts (leftI rs.length (updN D b 1)) ∧ (leftI rs.length D).length = (leftI rs.length (updN D b 1)).length + 1 := by
  have hmem : ∀ x ∈ leftI rs.length D, x < rs.length ∧ D x = 0 := fun x hx => by
    unfold leftI at hx
    simpa using hx
  rcases best_spec rs D t rs.length with ⟨h1, h2⟩ | ⟨b, hb, h1, h2, h3⟩
  · refine .inl ⟨h1, h.none fun x hx hl hh => ?_⟩
    obtain ⟨a1, a2⟩ := hmem x hx
    exact h2 x a1 ⟨a2, hl, hh⟩
  · have hp := left_take hb h2.1
    refine .inr ⟨b, hb, h1, h.first hs hp fun x hx hl hh => ?_, by rw [hp.length_eq]; rfl⟩
    obtain ⟨a1, a2⟩ := hmem x hx
    exact h3 x a1 ⟨a2, hl, hh⟩
end Go.Proofs.Ytbbdlebmagknmaa
